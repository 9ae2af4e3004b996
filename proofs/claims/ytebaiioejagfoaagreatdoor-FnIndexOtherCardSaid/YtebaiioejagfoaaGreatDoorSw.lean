/- The evaluator S and what it says of functions: Sp, Sq, Sr, Ss, Su, Sv, Sw. -/
import Derived.Test.YtebaiioejagfoaaGreatDoorSo
/- The evaluator S: what is lent to a callee, and what comes back. -/
namespace Go.Proofs.YtebaiioejagfoaaGreatDoor
open Go
set_option linter.unusedVariables false
set_option linter.unusedSimpArgs false
variable {P : Program} {T : Tab}
def lent (keep : List Nat) (os : List SO) : List SO := (gcO keep os).map SO.lend
theorem lend_live (o : SO) : o.lend.isLive = o.isLive := by cases o <;> rfl
theorem lent_get {keep : List Nat} {os : List SO} {i : Nat} {o : SO} (h : (lent keep os)[i]? = some o) : ∃ j, keep[i]? = some j ∧ o = ((os.getD j .dead).ren (place keep)).lend := by
  unfold lent at h
  rw [List.getElem?_map] at h
  obtain ⟨o', ho, rfl⟩ := Option.map_eq_some_iff.1 h
  obtain ⟨j, hj, rfl⟩ := gcO_get ho
  exact ⟨j, hj, rfl⟩
theorem lent_live {os : List SO} {g : Nat → Gh} {keep : List Nat} {i : Nat} {o : SO} {b : Nat} (h : (lent keep os)[i]? = some o) (hl : o.isLive = true) (hb : (gk g keep i).has b) :
    ∃ j o', keep[i]? = some j ∧ os[j]? = some o' ∧ o'.isLive = true ∧ (g j).has b := by
  obtain ⟨j, hj, rfl⟩ := lent_get h
  rw [lend_live, ren_live] at hl
  have hd : os.getD j .dead ≠ .dead := fun e => by rw [e] at hl; cases hl
  refine ⟨j, _, hj, getD_some rfl hd, hl, ?_⟩
  unfold gk at hb
  rw [hj] at hb
  exact hb
def frC (w : World) (A : Nat → Prop) (keep : List Nat) (os : List SO) (g : Nat → Gh) : Fr :=
  { N := w.heap.size, A := A, L := fun b => live (lent keep os) (gk g keep) b, w0 := w }
theorem lent_sub {fr : Fr} {os : List SO} {g : Nat → Gh} {w : World} {keep : List Nat} {A : Nat → Prop} (hA : ∀ b, Bk fr os g w b → A b) :
    ∀ b, Bk fr os g w b → Bk (frC w A keep os g) (lent keep os) (gk g keep) w b := fun b hb =>
  ⟨hb.1, fun _ => hA b hb, fun ⟨i, o, hi, hl, hbl⟩ => by
    obtain ⟨j, o', hj, ho, hl', hb'⟩ := lent_live hi hl hbl
    exact hb.2.2 ⟨j, o', ho, hl', hb'⟩⟩
theorem ObjOK.lend {w : World} {B : Nat → Prop} {g : Nat → Gh} {j : Nat} {o : SO} (h : ObjOK w B g j o) : ObjOK w B g j o.lend := by
  cases o <;> exact h
theorem lent_mem {fr : Fr} {os : List SO} {g : Nat → Gh} {w : World} (hm : Mem fr os g w) {keep : List Nat} (hn : nodupB keep = true) {A : Nat → Prop} (hA : ∀ b, Bk fr os g w b → A b) :
    Mem (frC w A keep os g) (lent keep os) (gk g keep) w where
  objs i o hi := by
    obtain ⟨j, hj, rfl⟩ := lent_get hi
    by_cases hd : os.getD j .dead = .dead
    · rw [hd]; trivial
    · exact ((hm.objs j _ (getD_some rfl hd)).ren (lent_sub hA) gk_place (by unfold gk; rw [hj])).lend
  fresh i hi := by
    unfold gk
    rw [List.getElem?_eq_none (by simpa [lent, gcO] using hi)]
  inj i k oi ok b hi hk li lk bi bk := by
    obtain ⟨j, o', hj, ho, hl, hb⟩ := lent_live hi li bi
    obtain ⟨j', o'', hj', ho', hl', hb'⟩ := lent_live hk lk bk
    have := hm.inj j j' o' o'' b ho ho' hl hl' hb hb'
    subst this
    exact nodup_get hn hj hj'
  own b hb := by
    refine ⟨?_, fun _ => hb⟩
    obtain ⟨i, o, hi, hl, hbl⟩ := hb
    obtain ⟨j, o', hj, ho, hl', hb'⟩ := lent_live hi hl hbl
    exact (hm.own b ⟨j, o', ho, hl', hb'⟩).1
  mine i sz l b hi hb := by
    obtain ⟨j, hj, e⟩ := lent_get hi
    cases h : (os.getD j .dead).ren (place keep) <;> rw [h] at e <;> cases e
  frame b _ _ := rfl
  size := Nat.le_refl _
  out := SameOut.refl _
theorem place_none : ∀ {keep : List Nat} {j : Nat}, place keep j = none → ∀ i : Nat, keep[i]? ≠ some j
  | [], _, _, i, h => by simp at h
  | k :: ks, j, hp, i, h => by
    simp only [place] at hp
    split at hp
    · simp at hp
    · rename_i hne
      split at hp
      · simp at hp
      · rename_i hq
        cases i with
        | zero => simp at h; exact hne h
        | succ i => exact place_none hq i (by simpa using h)
theorem snap_rep {fr : Fr} {os : List SO} {g : Nat → Gh} {w : World} (hm : Mem fr os g w) {keep : List Nat} {A : Nat → Prop} (hA : ∀ b, Bk fr os g w b → A b) {x : SV} {v : Value} {j sz : Nat} {l : List SV}
    (hx : RepV w (Bk fr os g w) g x v) (he : elems os x = some (sz, l)) (hj : x = .osl j ∨ ∃ lo hi, x = .vw j lo hi) (hk : ∀ i : Nat, keep[i]? ≠ some j) (hs : ∀ lt sz l b, os[j]? = some (.arr lt sz l) → (g j).has b → A b) :
    RepV w (Bk (frC w A keep os g) (lent keep os) (gk g keep) w) (gk g keep) (.sl sz l) v := by
  have hBk : ∀ lt sz l b, os[j]? = some (.arr lt sz l) → (g j).has b → Bk (frC w A keep os g) (lent keep os) (gk g keep) w b := by
    intro lt sz l b h1 h2
    refine ⟨(hm.own b ⟨j, _, h1, rfl, h2⟩).1, fun _ => hs lt sz l b h1 h2, ?_⟩
    rintro ⟨i, o, hi, hl, hb⟩
    obtain ⟨j', o', hj', ho', hl', hb'⟩ := lent_live hi hl hb
    have := hm.inj j' j o' _ b ho' h1 hl' rfl hb' h2
    subst this
    exact hk i hj'
  obtain ⟨a, c, rfl, hlc, hr⟩ := elems_rep hm hx he
  rcases hr with rfl | ⟨b, o, vs, rfl, h1, h2, h3⟩
  · exact .sl0
  · by_cases hl0 : l = []
    · subst hl0; exact .sl0
    have hb : Bk (frC w A keep os g) (lent keep os) (gk g keep) w b := by
      have hcase : ∀ sz' n cap, g j = .blk b sz' n cap → Bk (frC w A keep os g) (lent keep os) (gk g keep) w b := by
        intro sz' n cap hg
        unfold elems at he
        have hget : ∃ q, os[j]? = some q ∧ ((∃ lt l', q = .arr lt sz l') ∨ ∃ l', q = .frz sz l') := by
          rcases hj with rfl | ⟨lo, hi, rfl⟩
          · simp only at he
            split at he
            · rename_i lt sz' l' hq; obtain ⟨rfl, rfl⟩ := Prod.mk.inj (Option.some.inj he); exact ⟨_, hq, .inl ⟨_, _, rfl⟩⟩
            · rename_i sz' l' hq; obtain ⟨rfl, rfl⟩ := Prod.mk.inj (Option.some.inj he); exact ⟨_, hq, .inr ⟨_, rfl⟩⟩
            · simp at he
          · simp only at he
            split at he
            · rename_i lt sz' l' hq
              split at he
              · obtain ⟨rfl, rfl⟩ := Prod.mk.inj (Option.some.inj he); exact ⟨_, hq, .inl ⟨_, _, rfl⟩⟩
              · simp at he
            · rename_i sz' l' hq
              split at he
              · obtain ⟨rfl, rfl⟩ := Prod.mk.inj (Option.some.inj he); exact ⟨_, hq, .inr ⟨_, rfl⟩⟩
              · simp at he
            · simp at he
        obtain ⟨q, hq, hq'⟩ := hget
        rcases hq' with ⟨lt, l', rfl⟩ | ⟨l', rfl⟩
        · exact hBk lt sz l' b hq (by rw [hg]; rfl)
        · rcases hm.objs _ _ hq with ⟨_, hn⟩ | ⟨b', cap', vs', e1, e2, e3, _⟩
          · rw [hg] at hn; cases hn
          · rw [hg] at e1; cases e1; exact lent_sub hA b e3
      rcases hj with rfl | ⟨lo, hi, rfl⟩
      · cases hx with
        | osln hg =>
          exfalso
          unfold elems at he
          simp only at he
          split at he
          · rename_i lt sz' l' hq
            rcases hm.objs _ _ hq with ⟨_, h9⟩ | ⟨_, _, _, h9, _⟩ <;> rw [hg] at h9 <;> cases h9
          · rename_i sz' l' hq
            rcases hm.objs _ _ hq with ⟨_, h9⟩ | ⟨_, _, _, h9, _⟩ <;> rw [hg] at h9 <;> cases h9
          · simp at he
        | osl hg => exact hcase _ _ _ hg
      · generalize hv : (Value.slice (some ⟨b, o, none⟩) l.length c) = vv at hx
        cases hx with
        | vw0 =>
          injection hv with h1 h2 h3
          have hz : l.length = 0 := h2
          exact absurd (List.length_eq_zero_iff.1 hz) hl0
        | vw hg _ _ _ =>
          injection hv with h1 h2 h3
          injection h1 with h1
          injection h1 with h1 _ _
          subst h1
          exact hcase _ _ _ hg
    have := h1.mono (lent_sub (keep := keep) hA) (fun _ _ => rfl) (g' := G0) (fun _ h => absurd rfl h)
    exact .sl this.1 this.2 h2 h3 hb hlc
theorem argCell_rep {fr : Fr} {os : List SO} {g : Nat → Gh} {w : World} (hm : Mem fr os g w) {keep : List Nat} {A : Nat → Prop} (hA : ∀ b, Bk fr os g w b → A b) {x y : SV} {v : Value}
    (hx : RepV w (Bk fr os g w) g x v) (h : argCell os keep x = some y) (hs : ∀ j, (x = .osl j ∨ ∃ lo hi, x = .vw j lo hi) → (∀ i : Nat, keep[i]? ≠ some j) → ∀ o b, os[j]? = some o → o.isLive = true → (g j).has b → A b) :
    RepV w (Bk (frC w A keep os g) (lent keep os) (gk g keep) w) (gk g keep) y v := by
  have hsub := lent_sub (keep := keep) hA
  unfold argCell at h
  split at h
  · obtain rfl := Option.some.inj h; cases hx with | v hv => exact .v hv
  · obtain rfl := Option.some.inj h; exact ren0_rep (x := .sl _ _) hsub gk_place hx
  · obtain rfl := Option.some.inj h; exact ren0_rep (x := .el _ _) hsub gk_place hx
  · rename_i j o
    split at h
    · rename_i i hi
      obtain rfl := Option.some.inj h
      cases hx with | ptr hp => exact .ptr (by rw [gk_place j i hi]; exact hp)
    · simp at h
  · rename_i j i o
    split at h
    · rename_i k hk
      obtain rfl := Option.some.inj h
      cases hx with | ap hp => exact .ap (by rw [gk_place j k hk]; exact hp)
    · simp at h
  · rename_i f caps
    obtain rfl := Option.some.inj h
    exact ren1_rep (x := .fn f caps) hsub gk_place hx
  · rename_i j
    split at h
    · rename_i i hi
      obtain rfl := Option.some.inj h
      cases hx with
      | osl0 hp => exact .osl0 (by rw [gk_place j i hi]; exact hp)
      | osl hp => exact .osl (by rw [gk_place j i hi]; exact hp)
      | osln hp => exact .osln (by rw [gk_place j i hi]; exact hp)
    · rename_i hi
      split at h
      · rename_i p hp
        obtain rfl := Option.some.inj h
        exact snap_rep hm hA hx hp (.inl rfl) (place_none hi) (fun lt sz l b h1 h2 => hs j (.inl rfl) (place_none hi) _ b h1 rfl h2)
      · unfold nstA at h
        split at h
        · rename_i lt sz l hq
          obtain rfl := Option.some.inj h
          have hBk : ∀ c, (g j).has c → Bk (frC w A keep os g) (lent keep os) (gk g keep) w c := fun c hc => by
            refine ⟨(hm.own c ⟨j, _, hq, rfl, hc⟩).1, fun _ => hs j (.inl rfl) (place_none hi) _ c hq rfl hc, ?_⟩
            rintro ⟨i, o, hi2, hl, hb⟩
            obtain ⟨j', o', hj', ho', hl', hb'⟩ := lent_live hi2 hl hb
            have := hm.inj j' j o' _ c ho' hq hl' rfl hb' hc
            subst this
            exact place_none hi i hj'
          rcases hm.objs _ _ hq with ⟨rfl, hn⟩ | ⟨b, cap, vs, ins, e1, e2, e3, e4, e5, e6, e7⟩
          · cases hx with
            | osl0 => exact .sl0
            | osl hg => rw [hn] at hg; cases hg
            | osln hg => rw [hn] at hg; cases hg
          · cases hx with
            | osl0 hg => rw [e1] at hg; cases hg
            | osl hg => rw [e1] at hg; cases hg
            | osln hg =>
              rw [e1] at hg; cases hg
              have := e3.mono (B' := Bk (frC w A keep os g) (lent keep os) (gk g keep) w) (fun c hc => hBk c (by rw [e1]; exact .inr hc)) (fun _ _ => rfl) (g' := G0) (fun _ h => absurd rfl h)
              exact .sl this.1 this.2 e4 e5 (hBk b (by rw [e1]; exact .inl rfl)) e2
        · simp at h
  · rename_i j lo hh
    split at h
    · simp at h
    · rename_i hi
      split at h
      · rename_i p hp
        obtain rfl := Option.some.inj h
        exact snap_rep hm hA hx hp (.inr ⟨lo, hh, rfl⟩) (place_none hi) (fun lt sz l b h1 h2 => hs j (.inr ⟨lo, hh, rfl⟩) (place_none hi) _ b h1 rfl h2)
      · simp at h
  · simp at h
theorem argCells_rep {fr : Fr} {os : List SO} {g : Nat → Gh} {w : World} (hm : Mem fr os g w) {keep : List Nat} {A : Nat → Prop} (hA : ∀ b, Bk fr os g w b → A b) : ∀ (xs : List SV) {ys : List SV} {vs : List Value},
    RepL w (Bk fr os g w) g xs vs → argCells os keep xs = some ys →
    (∀ x, x ∈ xs → ∀ j, (x = .osl j ∨ ∃ lo hi, x = .vw j lo hi) → (∀ i : Nat, keep[i]? ≠ some j) → ∀ o b, os[j]? = some o → o.isLive = true → (g j).has b → A b) →
    RepL w (Bk (frC w A keep os g) (lent keep os) (gk g keep) w) (gk g keep) ys vs := by
  intro xs
  induction xs with
  | nil =>
    intro ys vs hl h hs
    simp only [argCells, Option.some.injEq] at h
    subst h
    have := hl.1
    cases vs with
    | nil => exact RepL.nil
    | cons => simp at this
  | cons x xs ih =>
    intro ys vs hl h hs
    obtain ⟨v, vs', rfl, hv, hl'⟩ := hl.uncons
    simp only [argCells] at h
    split at h
    · rename_i y ys' hy hys
      obtain rfl := Option.some.inj h
      exact RepL.cons (argCell_rep hm hA hv hy (hs x (by simp))) (ih hl' hys fun z hz => hs z (by simp [hz]))
    · simp at h
theorem argV_rep {fr : Fr} {os : List SO} {g : Nat → Gh} {w : World} (hm : Mem fr os g w) {keep : List Nat} {A : Nat → Prop} (hA : ∀ b, Bk fr os g w b → A b) {x y : SV} {v : Value}
    (hx : RepV w (Bk fr os g w) g x v) (h : argV os keep x = some y) (hs : ∀ z, z ∈ x.cells → ∀ j, (z = .osl j ∨ ∃ lo hi, z = .vw j lo hi) → (∀ i : Nat, keep[i]? ≠ some j) → ∀ o b, os[j]? = some o → o.isLive = true → (g j).has b → A b) :
    RepV w (Bk (frC w A keep os g) (lent keep os) (gk g keep) w) (gk g keep) y v := by
  unfold argV at h
  split at h
  · rename_i l
    split at h
    · rename_i ys hys
      obtain rfl := Option.some.inj h
      cases hx with
      | ag h1 h2 h3 =>
        have := argCells_rep hm hA l ⟨h1, h2⟩ hys hs
        exact .ag this.1 this.2 h3
    · simp at h
  · rename_i hna
    have e : x.cells = [x] := by cases x <;> first | rfl | exact absurd rfl (hna _)
    exact argCell_rep hm hA hx h (hs x (by rw [e]; simp))
theorem argVs_rep {fr : Fr} {os : List SO} {g : Nat → Gh} {w : World} (hm : Mem fr os g w) {keep : List Nat} {A : Nat → Prop} (hA : ∀ b, Bk fr os g w b → A b) : ∀ (xs : List SV) {ys : List SV} {vs : List Value},
    RepL w (Bk fr os g w) g xs vs → argVs os keep xs = some ys →
    (∀ x, x ∈ xs → ∀ z, z ∈ x.cells → ∀ j, (z = .osl j ∨ ∃ lo hi, z = .vw j lo hi) → (∀ i : Nat, keep[i]? ≠ some j) → ∀ o b, os[j]? = some o → o.isLive = true → (g j).has b → A b) →
    RepL w (Bk (frC w A keep os g) (lent keep os) (gk g keep) w) (gk g keep) ys vs := by
  intro xs
  induction xs with
  | nil =>
    intro ys vs hl h hs
    simp only [argVs, Option.some.injEq] at h
    subst h
    have := hl.1
    cases vs with
    | nil => exact RepL.nil
    | cons => simp at this
  | cons x xs ih =>
    intro ys vs hl h hs
    obtain ⟨v, vs', rfl, hv, hl'⟩ := hl.uncons
    simp only [argVs] at h
    split at h
    · rename_i y ys' hy hys
      obtain rfl := Option.some.inj h
      exact RepL.cons (argV_rep hm hA hv hy (hs x (by simp))) (ih hl' hys fun z hz => hs z (by simp [hz]))
    · simp at h
end Go.Proofs.YtebaiioejagfoaaGreatDoor

/- The evaluator S: behind a call. -/
namespace Go.Proofs.YtebaiioejagfoaaGreatDoor
open Go
set_option linter.unusedVariables false
set_option linter.unusedSimpArgs false
variable {P : Program} {T : Tab}
theorem flat1 {w : World} {B B' : Nat → Prop} {g : Nat → Gh} {x : SV} {v : Value} (h : RepV w B g x v) (hx : hasSl1 x = false) : RepV w B' g x v := by
  cases h <;> simp [hasSl1] at hx
  · exact .v (by assumption)
  · exact .dead
  · exact .osl0 (by assumption)
  · exact .osl (by assumption)
  · exact .osln (by assumption)
  · exact .ptr (by assumption)
  · rename_i f caps vs h1 h2
    cases caps with
    | nil =>
      obtain rfl : vs = [] := by cases vs <;> simp at h1 ⊢
      exact RepV.fn (caps := []) (vs := []) rfl (fun i x v h => by simp at h)
    | cons => simp [hasSl1] at hx
theorem flatL {w : World} {B B' : Nat → Prop} {g : Nat → Gh} {l : List SV} {vs : List Value} (h : RepL w B g l vs) (hx : l.any hasSl1 = false) : RepL w B' g l vs :=
  ⟨h.1, fun i x v h1 h2 => flat1 (h.2 i x v h1 h2) (by
    have := List.any_eq_false.1 hx x (List.mem_of_getElem? h1)
    simpa using this)⟩
theorem flat2 {w : World} {B B' : Nat → Prop} {g : Nat → Gh} {x : SV} {v : Value} (h : RepV w B g x v) (hx : x.cells.any hasSl1 = false) : RepV w B' g x v := by
  by_cases ha : ∃ l, x = .ag l
  · obtain ⟨l, rfl⟩ := ha
    cases h with
    | ag h1 h2 h3 =>
      have := flatL (B' := B') ⟨h1, h2⟩ hx
      exact .ag this.1 this.2 h3
  · have e : x.cells = [x] := by cases x <;> first | rfl | exact absurd ⟨_, rfl⟩ ha
    rw [e] at hx
    exact flat1 h (by simpa using hx)
theorem flat3 {w : World} {B B' : Nat → Prop} {g : Nat → Gh} {x : SV} {v : Value} (h : RepV w B g x v) (hx : hasSl3 x = false) : RepV w B' g x v := by
  by_cases ha : ∃ l, x = .tup l
  · obtain ⟨l, rfl⟩ := ha
    cases h with
    | tup h1 h2 =>
      refine .tup h1 fun i x v hx' hv => flat2 (h2 i x v hx' hv) ?_
      have := List.any_eq_false.1 hx x (List.mem_of_getElem? hx')
      simpa using this
  · have e : hasSl3 x = x.cells.any hasSl1 := by cases x <;> first | rfl | exact absurd ⟨_, rfl⟩ ha
    rw [e] at hx
    exact flat2 h hx
theorem flatE {w : World} {B B' : Nat → Prop} {g : Nat → Gh} {x : SV} {v : Value} (h : RepV w B g x v) (hx : flatSV x = true) : RepV w B' g x v := by
  refine flat2 h ?_
  rw [List.any_eq_false]
  intro y hy
  have := List.all_eq_true.1 hx y hy
  cases y <;> simp_all [hasSl1]
theorem ObjOK.flat {w : World} {B B' : Nat → Prop} {g : Nat → Gh} {j : Nat} {o : SO} (h : ObjOK w B g j o) (hf : o.hasSl = false) : ObjOK w B' g j o := by
  cases o with
  | dead => trivial
  | frz sz l => simp [SO.hasSl] at hf
  | nst lt sz l => exact h
  | arr lt sz l =>
    rcases h with h | ⟨b, cap, vs, h1, h2, h3, h4⟩
    · exact .inl h
    · refine .inr ⟨b, cap, vs, h1, h2, ⟨h3.1, fun i x v hx hv => flatE (h3.2 i x v hx hv) ?_⟩, h4⟩
      simp only [SO.hasSl, Bool.not_eq_false'] at hf
      exact List.all_eq_true.1 hf x (List.mem_of_getElem? hx)
  | box l =>
    obtain ⟨b, vs, h1, h2, h3⟩ := h
    exact ⟨b, vs, h1, flatL h2 hf, h3⟩
def Kin (o o0 : SO) : Prop := (∀ b sz l, o0 = .arr b sz l → o = .dead ∨ ∃ b' l', o = .arr b' sz l') ∧ (∀ l, o0 = .box l → ∃ l', o = .box l') ∧ ∀ b sz l, o0 = .nst b sz l → ∃ b' l', o = .nst b' sz l'
def mix (β : Nat → Option Nat) (o o0 : SO) : SO :=
  match o, o0 with
  | .arr _ sz l, .arr b _ _ => .arr b sz l
  | .box l, .box _ => .box (l.map (ren1 β))
  | .dead, .arr _ _ _ => .dead
  | .nst _ sz l, .nst b _ _ => .nst b sz l
  | _, o0 => o0
def SameL (o o0 : SO) : Prop := o.isLive = o0.isLive ∨ o = .dead ∧ ∃ b sz l, o0 = .arr b sz l
theorem giveBack_of (β : Nat → Option Nat) : ∀ (keep : List Nat) (los os os1 : List SO), nodupB keep = true → giveBack β keep los os = some os1 →
    os1.length = os.length ∧ (∀ j, (∀ i : Nat, keep[i]? ≠ some j) → os1[j]? = os[j]?) ∧
    ∀ (i j : Nat), keep[i]? = some j → ∃ o o0, los[i]? = some o ∧ os[j]? = some o0 ∧ os1[j]? = some (mix β o o0) ∧ SameL o o0 ∧ o0.there = true ∧
      Kin o o0 ∧ (∀ sz l, o = .frz sz l → ∃ sz' l', o0 = .frz sz' l') := by
  intro keep
  induction keep with
  | nil =>
    intro los os os1 _ h
    simp only [giveBack, Option.some.injEq] at h
    subst h
    exact ⟨rfl, fun _ _ => rfl, fun i j h => by simp at h⟩
  | cons j js ih =>
    intro los os os1 hn h
    simp only [nodupB, Bool.and_eq_true, Bool.not_eq_true'] at hn
    obtain ⟨hn1, hn2⟩ := hn
    have hnot : ∀ i : Nat, js[i]? ≠ some j := fun i h => by
      have : js.contains j = true := by simpa using List.mem_of_getElem? h
      rw [this] at hn1; cases hn1
    cases los with
    | nil => simp [giveBack] at h
    | cons o los =>
      simp only [giveBack] at h
      have core : ∀ (o0 x : SO), os[j]? = some o0 → giveBack β js los (os.set j x) = some os1 → x = mix β o o0 → SameL o o0 → o0.there = true →
          Kin o o0 → (∀ sz l, o = .frz sz l → ∃ sz' l', o0 = .frz sz' l') →
          os1.length = os.length ∧ (∀ k, (∀ i : Nat, (j :: js)[i]? ≠ some k) → os1[k]? = os[k]?) ∧
          ∀ (i k : Nat), (j :: js)[i]? = some k → ∃ o' o0', (o :: los)[i]? = some o' ∧ os[k]? = some o0' ∧ os1[k]? = some (mix β o' o0') ∧ SameL o' o0' ∧ o0'.there = true ∧
            Kin o' o0' ∧ (∀ sz l, o' = .frz sz l → ∃ sz' l', o0' = .frz sz' l') := by
        intro o0 x hj hg hx hl ht hz hf
        obtain ⟨h1, h2, h3⟩ := ih los _ os1 hn2 hg
        have hset : ∀ k, k ≠ j → (os.set j x)[k]? = os[k]? := fun k hk => by rw [List.getElem?_set, if_neg (fun e => hk e.symm)]
        refine ⟨by simpa using h1, fun k hk => ?_, fun i k hi => ?_⟩
        · have hkj : k ≠ j := fun e => by subst e; exact hk 0 rfl
          rw [h2 k (fun i hi => hk (i + 1) (by simpa using hi)), hset k hkj]
        · cases i with
          | zero =>
            simp at hi
            subst hi
            refine ⟨o, o0, rfl, hj, ?_, hl, ht, hz, hf⟩
            rw [h2 j hnot, ← hx, List.getElem?_set, if_pos rfl]
            first | rfl | rw [if_pos (lt_of_getElem? hj)]
          | succ i =>
            have hi' : js[i]? = some k := by simpa using hi
            have hkj : k ≠ j := fun e => by subst e; exact hnot i hi'
            obtain ⟨o', o0', a1, a2, a3⟩ := h3 i k hi'
            exact ⟨o', o0', by simpa using a1, by rw [← hset k hkj]; exact a2, a3⟩
      split at h
      · rename_i bb sz l b sz' l' hj
        split at h
        · rename_i e
          subst e
          exact core _ _ hj h rfl (.inl rfl) rfl ⟨(fun b sz l e => by cases e; exact .inr ⟨_, _, rfl⟩), (fun l e => by cases e), (fun b sz l e => by cases e)⟩ (fun sz l e => by cases e)
        · simp at h
      · rename_i l l' hj
        exact core _ _ hj h rfl (.inl rfl) rfl ⟨(fun b sz l e => by cases e), (fun l e => by cases e; exact ⟨_, rfl⟩), (fun b sz l e => by cases e)⟩ (fun sz l e => by cases e)
      · rename_i sz l sz' l' hj
        exact core _ (.frz sz' l') hj (by rw [set_same hj]; exact h) rfl (.inl rfl) rfl ⟨(fun b sz l e => by cases e), (fun l e => by cases e), (fun b sz l e => by cases e)⟩ (fun sz l e => ⟨_, _, rfl⟩)
      · rename_i b sz l hj
        exact core _ .dead hj h rfl (.inr ⟨rfl, _, _, _, rfl⟩) rfl ⟨(fun b sz l e => .inl rfl), (fun l e => by cases e), (fun b sz l e => by cases e)⟩ (fun sz l e => by cases e)
      · rename_i bb sz l b sz' l' hj
        split at h
        · rename_i e
          subst e
          exact core _ _ hj h rfl (.inl rfl) rfl ⟨(fun b sz l e => by cases e), (fun l e => by cases e), (fun b sz l e => by cases e; exact ⟨_, _, rfl⟩)⟩ (fun sz l e => by cases e)
        · simp at h
      · simp at h
theorem freeze_of {fr : Fr} {g : Nat → Gh} {w : World} : ∀ (js : List Nat) {os os1 : List SO}, Mem fr os g w → freeze js os = some os1 →
    Mem fr os1 g w ∧ Grow fr os g w os1 g w ∧ os1.length = os.length ∧ (∀ j, j ∉ js → os1[j]? = os[j]?) ∧ ∀ j, j ∈ js → ∃ sz l, os1[j]? = some (.frz sz l) := by
  intro js
  induction js with
  | nil =>
    intro os os1 hm h
    simp only [freeze, Option.some.injEq] at h
    subst h
    exact ⟨hm, Grow.refl _ _ _ _, rfl, fun _ _ => rfl, fun j h => by simp at h⟩
  | cons j js ih =>
    intro os os1 hm h
    simp only [freeze] at h
    split at h
    · rename_i sz l hj
      have hm1 := freeze_mem hm hj
      obtain ⟨a1, a2, a3, a4, a5⟩ := ih hm1 h
      refine ⟨a1, (freeze_chg hm hj).grow.trans a2, by simpa using a3, fun k hk => ?_, fun k hk => ?_⟩
      · simp at hk
        rw [a4 k hk.2, List.getElem?_set, if_neg (fun e => hk.1 e.symm)]
      · by_cases hjs : k ∈ js
        · exact a5 k hjs
        · have : k = j := by simpa [hjs] using hk
          subst this
          refine ⟨sz, l, ?_⟩
          rw [a4 k hjs, List.getElem?_set, if_pos rfl]
          first | rfl | rw [if_pos (lt_of_getElem? hj)]
    · rename_i sz l hj
      obtain ⟨a1, a2, a3, a4, a5⟩ := ih hm h
      refine ⟨a1, a2, a3, fun k hk => a4 k (fun hh => hk (by simp [hh])), fun k hk => ?_⟩
      by_cases hjs : k ∈ js
      · exact a5 k hjs
      · have : k = j := by simpa [hjs] using hk
        subst this
        exact ⟨sz, l, by rw [a4 k hjs]; exact hj⟩
    · simp at h
def gB (g g' : Nat → Gh) (n m : Nat) (j : Nat) : Gh := if j < n then g j else g' (m + (j - n))
theorem back_mem {fr : Fr} {os os0 os1 los : List SO} {g g' : Nat → Gh} {w w' : World} {keep : List Nat} {A : Nat → Prop} (hm : Mem fr os g w) (hn : nodupB keep = true)
    (hm0 : Mem fr os0 g w) (hlen : os0.length = os.length) (hsame : ∀ i j : Nat, keep[i]? = some j → os0[j]? = os[j]?) (hth : (gcO keep os).all SO.there = true)
    (hmc : Mem (frC w A keep os g) los g' w') (hg' : ∀ i, i < keep.length → gk g keep i ≠ .no → g' i = gk g keep i) (hll : keep.length ≤ los.length)
    (hb : giveBack (backName keep os.length) keep los os0 = some os1)
    (hsl : (∀ b, b < w.heap.size → A b → (b < fr.N → fr.A b) ∧ ¬ live os0 g b) ∨ los.any SO.hasSl = false) :
    Mem fr (os1 ++ (los.drop keep.length).map (fun o => (o.ren (backName keep os.length)).back (anyLent os keep))) (gB g g' os.length keep.length) w' ∧
    Grow fr os0 g w (os1 ++ (los.drop keep.length).map (fun o => (o.ren (backName keep os.length)).back (anyLent os keep))) (gB g g' os.length keep.length) w' ∧
    (∀ x v, RepV w' (Bk (frC w A keep os g) los g' w') g' x v → ((∀ b, b < w.heap.size → A b → (b < fr.N → fr.A b) ∧ ¬ live os0 g b) ∨ hasSl3 x = false) →
      RepV w' (Bk fr (os1 ++ (los.drop keep.length).map (fun o => (o.ren (backName keep os.length)).back (anyLent os keep))) (gB g g' os.length keep.length) w') (gB g g' os.length keep.length) (ren3 (backName keep os.length) x) v) := by
  obtain ⟨b1, b2, b3⟩ := giveBack_of _ keep los os0 os1 hn hb
  have hthere : ∀ i j : Nat, keep[i]? = some j → j < os.length ∧ ∃ o, os[j]? = some o ∧ o.there = true := by
    intro i j hi
    have hgo : (gcO keep os)[i]? = some ((os.getD j .dead).ren (place keep)) := by unfold gcO; rw [List.getElem?_map, hi]; rfl
    have := List.all_eq_true.1 hth _ (List.mem_of_getElem? hgo)
    have hd : os.getD j .dead ≠ .dead := fun e => by rw [e] at this; cases this
    have hj := getD_some rfl hd
    refine ⟨lt_of_getElem? hj, _, hj, ?_⟩
    cases h : os.getD j .dead <;> rw [h] at this <;> first | rfl | exact absurd h hd
  have hgne : ∀ i j : Nat, keep[i]? = some j → g j ≠ .no := by
    intro i j hi
    obtain ⟨_, o, ho, ht⟩ := hthere i j hi
    have hok := hm.objs j o ho
    cases o with
    | dead => cases ht
    | frz sz l => rcases hok with ⟨_, h⟩ | ⟨b, cap, vs, h, _⟩ <;> rw [h] <;> simp
    | arr lt sz l => rcases hok with ⟨_, h⟩ | ⟨b, cap, vs, h, _⟩ <;> rw [h] <;> simp
    | nst lt sz l => rcases hok with ⟨_, h⟩ | ⟨b, cap, vs, ins, h, _⟩ <;> rw [h] <;> simp
    | box l => obtain ⟨b, vs, h, _⟩ := hok; rw [h]; simp
  have hgk : ∀ i j : Nat, keep[i]? = some j → g' i = g j := by
    intro i j hi
    have e : gk g keep i = g j := by unfold gk; rw [hi]
    rw [hg' i (lt_of_getElem? hi) (by rw [e]; exact hgne i j hi), e]
  have hG1 : ∀ j, j < os.length → gB g g' os.length keep.length j = g j := fun j hj => by unfold gB; rw [if_pos hj]
  have hG2 : ∀ k, gB g g' os.length keep.length (os.length + k) = g' (keep.length + k) := fun k => by unfold gB; rw [if_neg (by omega)]; congr 1; omega
  have hGβ : ∀ i j, backName keep os.length i = some j → gB g g' os.length keep.length j = g' i := by
    intro i j h
    unfold backName at h
    split at h
    · rename_i hi
      rw [hG1 j (hthere i j h).1, hgk i j h]
    · rename_i hi
      obtain rfl := Option.some.inj h
      rw [hG2]; congr 1; omega
  have hlen1 : os1.length = os.length := by rw [b1, hlen]
  have src : ∀ (k : Nat) (o : SO), (os1 ++ (los.drop keep.length).map (fun o => (o.ren (backName keep os.length)).back (anyLent os keep)))[k]? = some o →
      (k < os.length ∧ (∀ i : Nat, keep[i]? ≠ some k) ∧ os0[k]? = some o) ∨
      (∃ (i : Nat) (o' o0 : SO), keep[i]? = some k ∧ los[i]? = some o' ∧ os0[k]? = some o0 ∧ o = mix (backName keep os.length) o' o0 ∧ SameL o' o0 ∧ o0.there = true ∧ Kin o' o0 ∧ (∀ sz l, o' = .frz sz l → ∃ sz' l', o0 = .frz sz' l')) ∨
      (∃ (q : Nat) (o' : SO), k = os.length + q ∧ los[keep.length + q]? = some o' ∧ o = (o'.ren (backName keep os.length)).back (anyLent os keep) ∧ True) := by
    intro k o hk
    rcases Nat.lt_or_ge k os1.length with h | h
    · rw [List.getElem?_append_left h] at hk
      by_cases hin : ∃ i : Nat, keep[i]? = some k
      · obtain ⟨i, hi⟩ := hin
        obtain ⟨o', o0, a1, a2, a3, a4, a5, a6, a7⟩ := b3 i k hi
        rw [a3] at hk
        exact .inr (.inl ⟨i, o', o0, hi, a1, a2, (Option.some.inj hk).symm, a4, a5, a6, a7⟩)
      · have hin' : ∀ i : Nat, keep[i]? ≠ some k := fun i hi => hin ⟨i, hi⟩
        rw [b2 k hin'] at hk
        exact .inl ⟨by omega, hin', hk⟩
    · rw [List.getElem?_append_right h, List.getElem?_map] at hk
      obtain ⟨o', ho', rfl⟩ := Option.map_eq_some_iff.1 hk
      rw [List.getElem?_drop] at ho'
      exact .inr (.inr ⟨k - os1.length, o', by omega, ho', rfl, trivial⟩)
  have hLlive : ∀ b, live (lent keep os) (gk g keep) b → ∃ (i j : Nat) (o : SO), keep[i]? = some j ∧ os0[j]? = some o ∧ o.isLive = true ∧ (g j).has b := by
    rintro b ⟨i, o, hi, hl, hbl⟩
    obtain ⟨j, o', hj, ho, hl', hb'⟩ := lent_live hi hl hbl
    exact ⟨i, j, o', hj, by rw [hsame i j hj]; exact ho, hl', hb'⟩
  have hold : ∀ (k : Nat) (o : SO) (b : Nat), (∀ i : Nat, keep[i]? ≠ some k) → os0[k]? = some o → o.isLive = true → (g k).has b → ¬ live (lent keep os) (gk g keep) b := by
    intro k o b hk ho hl hbl hL
    obtain ⟨i, j, o', hi, ho', hl', hb'⟩ := hLlive b hL
    have := hm0.inj j k o' o b ho' ho hl' hl hb' hbl
    subst this
    exact hk i hi
  have hLl0 : ∀ b, live (lent keep os) (gk g keep) b → live os0 g b := fun b hL => by
    obtain ⟨i, j, o, hi, ho, hl, hbl⟩ := hLlive b hL
    exact ⟨j, o, ho, hl, hbl⟩
  have hNs : fr.N ≤ w.heap.size := hm.size
  have hwsz : w.heap.size ≤ w'.heap.size := hmc.size
  have hwsame : ∀ b, b < w.heap.size → ¬ live (lent keep os) (gk g keep) b → w'.heap[b]? = w.heap[b]? := fun b h1 h2 => hmc.frame b h1 h2
  have mixA : ∀ (β : Nat → Option Nat) (o o0 : SO), SameL o o0 → (mix β o o0).isLive = true → o.isLive = true := by
    intro β o o0 h h2
    rcases h with h | ⟨rfl, b, sz, l, rfl⟩
    · cases o <;> cases o0 <;> first | rfl | (simp [mix, SO.isLive] at h h2 ⊢)
    · simp [mix, SO.isLive] at h2
  have mixB : ∀ (β : Nat → Option Nat) (o o0 : SO), SameL o o0 → (mix β o o0).isLive = true → o0.isLive = true := by
    intro β o o0 h h2
    rcases h with h | ⟨rfl, b, sz, l, rfl⟩
    · cases o <;> cases o0 <;> first | rfl | (simp [mix, SO.isLive] at h h2 ⊢)
    · simp [mix, SO.isLive] at h2
  have ren_live : ∀ (β : Nat → Option Nat) (o : SO), ((o.ren β).back (anyLent os keep)).isLive = o.isLive := fun β o => by cases o <;> rfl
  have back_ok : ∀ {w : World} {B : Nat → Prop} {g : Nat → Gh} {j : Nat} {o : SO} {tr : Bool}, ObjOK w B g j o → ObjOK w B g j (o.back tr) := by
    intro w B g j o tr h
    cases o <;> exact h
  have nlive : ∀ b, live (os1 ++ (los.drop keep.length).map (fun o => (o.ren (backName keep os.length)).back (anyLent os keep))) (gB g g' os.length keep.length) b →
      (∃ (k : Nat) (o : SO), (∀ i : Nat, keep[i]? ≠ some k) ∧ os0[k]? = some o ∧ o.isLive = true ∧ (g k).has b) ∨ live los g' b := by
    rintro b ⟨k, o, hk, hl, hbl⟩
    rcases src k o hk with ⟨s1, s2, s3⟩ | ⟨i, o', o0, s1, s2, s3, rfl, s5, s6, s7⟩ | ⟨q, o', rfl, s2, rfl, s4⟩
    · rw [hG1 k s1] at hbl; exact .inl ⟨k, o, s2, s3, hl, hbl⟩
    · have hl := mixA _ _ _ s5 hl
      rw [hG1 k (hthere i k s1).1, ← hgk i k s1] at hbl
      exact .inr ⟨i, o', s2, hl, hbl⟩
    · rw [ren_live] at hl; rw [hG2] at hbl; exact .inr ⟨_, o', s2, hl, hbl⟩
  have cown : ∀ b, live los g' b → b < w'.heap.size ∧ (b < w.heap.size → live (lent keep os) (gk g keep) b) := fun b hb => hmc.own b hb
  have hsub : ∀ b, Bk fr os0 g w b → Bk fr (os1 ++ (los.drop keep.length).map (fun o => (o.ren (backName keep os.length)).back (anyLent os keep))) (gB g g' os.length keep.length) w' b := by
    intro b hb
    refine ⟨Nat.lt_of_lt_of_le hb.1 hwsz, hb.2.1, fun hl => ?_⟩
    rcases nlive b hl with ⟨k, o, h1, h2, h3, h4⟩ | h
    · exact hb.2.2 ⟨k, o, h2, h3, h4⟩
    · exact hb.2.2 (hLl0 b ((cown b h).2 hb.1))
  have hsm : ∀ b, Bk fr os0 g w b → w'.heap[b]? = w.heap[b]? := fun b hb => hwsame b hb.1 fun hL => hb.2.2 (hLl0 b hL)
  have hext : ∀ j, g j ≠ .no → gB g g' os.length keep.length j = g j := fun j hj => hG1 j (by
    rcases Nat.lt_or_ge j os.length with h | h
    · exact h
    · exact absurd (hm.fresh j h) hj)
  have hgrow : Grow fr os0 g w (os1 ++ (los.drop keep.length).map (fun o => (o.ren (backName keep os.length)).back (anyLent os keep))) (gB g g' os.length keep.length) w' := ⟨hsub, hsm, hext⟩
  have hBn : (∀ b, b < w.heap.size → A b → (b < fr.N → fr.A b) ∧ ¬ live os0 g b) → ∀ b, Bk (frC w A keep os g) los g' w' b → Bk fr (os1 ++ (los.drop keep.length).map (fun o => (o.ren (backName keep os.length)).back (anyLent os keep))) (gB g g' os.length keep.length) w' b := by
    intro hA b hb
    refine ⟨hb.1, fun h => ?_, fun hl => ?_⟩
    · exact (hA b (Nat.lt_of_lt_of_le h hNs) (hb.2.1 (Nat.lt_of_lt_of_le h hNs))).1 h
    · rcases nlive b hl with ⟨k, o, h1, h2, h3, h4⟩ | h
      · have hlt := (hm0.own b ⟨k, o, h2, h3, h4⟩).1
        exact (hA b hlt (hb.2.1 hlt)).2 ⟨k, o, h2, h3, h4⟩
      · exact hb.2.2 h
  have tr : ∀ (i j : Nat) (o : SO), los[i]? = some o → gB g g' os.length keep.length j = g' i → ObjOK w' (Bk fr (os1 ++ (los.drop keep.length).map (fun o => (o.ren (backName keep os.length)).back (anyLent os keep))) (gB g g' os.length keep.length) w') (gB g g' os.length keep.length) j (o.ren (backName keep os.length)) := by
    intro i j o ho hj
    rcases hsl with hA | hf
    · exact (hmc.objs i o ho).ren (hBn hA) hGβ hj
    · have : o.hasSl = false := by
        have := List.any_eq_false.1 hf o (List.mem_of_getElem? ho)
        simpa using this
      exact ((hmc.objs i o ho).flat (B' := Bk fr (os1 ++ (los.drop keep.length).map (fun o => (o.ren (backName keep os.length)).back (anyLent os keep))) (gB g g' os.length keep.length) w') this).ren (fun _ h => h) hGβ hj
  refine ⟨?_, hgrow, fun x v hx hsx => ?_⟩
  · refine { objs := ?_, fresh := ?_, inj := ?_, own := ?_, mine := ?_, frame := ?_, size := Nat.le_trans hNs hwsz, out := hm.out.trans hmc.out }
    · intro k o hk
      rcases src k o hk with ⟨s1, s2, s3⟩ | ⟨i, o', o0, s1, s2, s3, rfl, s5, s6, s7, s8⟩ | ⟨q, o', rfl, s2, rfl, s4⟩
      · refine (hm0.objs k o s3).mono hsub hsm hext fun b hl hbl => ?_
        exact hwsame b (hm0.own b ⟨k, o, s3, hl, hbl⟩).1 (hold k o b s2 s3 hl hbl)
      · have hkl := (hthere i k s1).1
        have := tr i k o' s2 (by rw [hG1 k hkl, hgk i k s1])
        cases o0 with
        | dead => cases s6
        | box l0 =>
          obtain ⟨l', rfl⟩ := s7.2.1 _ rfl
          exact this
        | nst b0 sz0 l0 =>
          obtain ⟨b', l', rfl⟩ := s7.2.2 _ _ _ rfl
          exact this
        | arr b0 sz0 l0 =>
          rcases s7.1 _ _ _ rfl with rfl | ⟨b', l', rfl⟩
          · exact trivial
          · exact this
        | frz sz0 l0 =>
          have e : mix (backName keep os.length) o' (.frz sz0 l0) = .frz sz0 l0 := by cases o' <;> rfl
          rw [e]
          exact (hm0.objs k _ s3).mono hsub hsm hext fun b hl _ => by cases hl
      · exact back_ok (tr _ _ o' s2 (hG2 q))
    · intro k hk
      simp at hk
      have : k = os.length + (k - os.length) := by omega
      rw [this, hG2]
      exact hmc.fresh _ (by omega)
    · intro i k oi ok b hi hk li lk bi bk
      rcases src i oi hi with ⟨s1, s2, s3⟩ | ⟨i', o', o0, s1, s2, s3, rfl, s5, s6⟩ | ⟨q, o', rfl, s2, rfl, s4⟩ <;>
      rcases src k ok hk with ⟨t1, t2, t3⟩ | ⟨k', p', p0, t1, t2, t3, rfl, t5, t6⟩ | ⟨q', p', rfl, t2, rfl, t4⟩
      · rw [hG1 i s1] at bi; rw [hG1 k t1] at bk; exact hm0.inj i k oi ok b s3 t3 li lk bi bk
      · rw [hG1 i s1] at bi
        rw [hG1 k (hthere k' k t1).1] at bk
        have lk := mixB _ _ _ t5 lk
        exact hm0.inj i k oi p0 b s3 t3 li lk bi bk
      · rw [hG1 i s1] at bi; rw [hG2] at bk; rw [ren_live] at lk
        have hlt := (hm0.own b ⟨i, oi, s3, li, bi⟩).1
        exact absurd ((cown b ⟨_, p', t2, lk, bk⟩).2 hlt) (hold i oi b s2 s3 li bi)
      · rw [hG1 k t1] at bk
        rw [hG1 i (hthere i' i s1).1] at bi
        have li := mixB _ _ _ s5 li
        exact hm0.inj i k o0 ok b s3 t3 li lk bi bk
      · rw [hG1 i (hthere i' i s1).1] at bi
        have li := mixB _ _ _ s5 li
        rw [hG1 k (hthere k' k t1).1] at bk
        have lk := mixB _ _ _ t5 lk
        exact hm0.inj i k o0 p0 b s3 t3 li lk bi bk
      · rw [hG1 i (hthere i' i s1).1, ← hgk i' i s1] at bi
        have li := mixA _ _ _ s5 li
        rw [hG2] at bk; rw [ren_live] at lk
        have := hmc.inj i' _ o' p' b s2 t2 li lk bi bk
        have := lt_of_getElem? s1
        omega
      · rw [hG1 k t1] at bk; rw [hG2] at bi; rw [ren_live] at li
        have hlt := (hm0.own b ⟨k, ok, t3, lk, bk⟩).1
        exact absurd ((cown b ⟨_, o', s2, li, bi⟩).2 hlt) (hold k ok b t2 t3 lk bk)
      · rw [hG1 k (hthere k' k t1).1, ← hgk k' k t1] at bk
        have lk := mixA _ _ _ t5 lk
        rw [hG2] at bi; rw [ren_live] at li
        have := hmc.inj _ k' o' p' b s2 t2 li lk bi bk
        have := lt_of_getElem? t1
        omega
      · rw [hG2] at bi bk; rw [ren_live] at li lk
        have := hmc.inj _ _ o' p' b s2 t2 li lk bi bk
        omega
    · intro b hl
      rcases nlive b hl with ⟨k, o, h1, h2, h3, h4⟩ | h
      · have := hm0.own b ⟨k, o, h2, h3, h4⟩
        exact ⟨Nat.lt_of_lt_of_le this.1 hwsz, this.2⟩
      · obtain ⟨c1, c2⟩ := cown b h
        refine ⟨c1, fun hN => ?_⟩
        exact (hm0.own b (hLl0 b (c2 (Nat.lt_of_lt_of_le hN hNs)))).2 hN
    · intro k sz l b hk hbl
      rcases src k _ hk with ⟨s1, s2, s3⟩ | ⟨i, o', o0, s1, s2, s3, e, s5, s6, s7, s8⟩ | ⟨q, o', rfl, s2, e, s4⟩
      · rw [hG1 k s1] at hbl; exact hm0.mine k sz l b s3 hbl
      · rw [hG1 k (hthere i k s1).1] at hbl
        cases o0 with
        | arr b0 sz0 l0 =>
          rcases s7.1 _ _ _ rfl with rfl | ⟨b', l', rfl⟩
          · cases e
          · cases e
            exact hm0.mine k sz l0 b s3 hbl
        | dead => cases s6
        | box l0 => cases o' <;> cases e
        | frz sz0 l0 => cases o' <;> cases e
        | nst b0 sz0 l0 => cases o' <;> cases e
      · rw [hG2] at hbl
        cases o' with
        | arr b0 sz0 l0 =>
          simp only [SO.ren, SO.back, SO.arr.injEq] at e
          obtain ⟨e1, rfl, rfl⟩ := e
          cases b0 with
          | false => exact Nat.le_trans hNs (hmc.mine _ _ _ b s2 hbl)
          | true =>
            have htr : anyLent os keep = false := by simpa using e1.symm
            rcases Nat.lt_or_ge b w.heap.size with hlt | hge
            · obtain ⟨i0, j0, o1, k1, k2, k3, k4⟩ := hLlive b ((cown b ⟨_, _, s2, rfl, hbl⟩).2 hlt)
              obtain ⟨o', o0, a1, a2, a3, a4, a5, a6, a7⟩ := b3 i0 j0 k1
              obtain rfl : o1 = o0 := by rw [a2] at k2; exact (Option.some.inj k2).symm
              rcases a4 with a4 | ⟨rfl, b9, sz9, l9, rfl⟩
              · have hi := hmc.inj i0 _ o' _ b a1 s2 (by rw [a4]; exact k3) rfl (by rw [hgk i0 j0 k1]; exact k4) hbl
                have := lt_of_getElem? k1
                omega
              · have h9 : b9 = false := by
                  unfold anyLent at htr
                  rw [List.any_eq_false] at htr
                  have h8 := htr j0 (List.mem_of_getElem? k1)
                  rw [← hsame i0 j0 k1, k2] at h8
                  simpa using h8
                subst h9
                exact hm0.mine j0 sz9 l9 b k2 k4
            · exact Nat.le_trans hNs hge
        | _ => cases e
    · intro b hN hL
      have hb : b < w.heap.size := Nat.lt_of_lt_of_le hN hNs
      rw [hwsame b hb fun h => hL ((hm0.own b (hLl0 b h)).2 hN)]
      exact hm.frame b hN hL
  · rcases hsx with hA | hf
    · exact ren3_rep (hBn hA) hGβ hx
    · exact ren3_rep (fun _ h => h) hGβ (flat3 (B' := Bk fr (os1 ++ (los.drop keep.length).map (fun o => (o.ren (backName keep os.length)).back (anyLent os keep))) (gB g g' os.length keep.length) w') hx hf)
end Go.Proofs.YtebaiioejagfoaaGreatDoor

/- The evaluator S: calls of functions are sound, where the functions are. -/
namespace Go.Proofs.YtebaiioejagfoaaGreatDoor
open Go
set_option linter.unusedVariables false
set_option linter.unusedSimpArgs false
variable {P : Program} {T : Tab}
def FnOK (P : Program) (f : Nat) : Prop := ∃ fn b, P.funcs[f]? = some fn ∧ (fn.name == "runtime.NumGoroutine") = false ∧ fn.body = some b
def KOK1 (P : Program) (f : Nat) (K : List SV → List SO → Out) : Prop :=
  ∀ (args : List SV) (los los' : List SO) (r : SV), K args los = some (r, los') → FnOK P f ∧
    ∀ (A L : Nat → Prop) (g : Nat → Gh) (vals : List Value) (w : World), (∀ b, live los g b → L b) → Mem ⟨w.heap.size, A, L, w⟩ los g w → RepL w (Bk ⟨w.heap.size, A, L, w⟩ los g w) g args vals →
      Calls P f vals.toArray w fun e w' => ∃ v g', e = .returned v ∧ Mem ⟨w.heap.size, A, L, w⟩ los' g' w' ∧ (∀ j, j < los.length → g j ≠ .no → g' j = g j) ∧
        RepV w' (Bk ⟨w.heap.size, A, L, w⟩ los' g' w') g' r v ∧ los.length ≤ los'.length
def KOK (P : Program) (K : Nat → List SV → List SO → Out) : Prop := ∀ f, KOK1 P f (K f)
theorem argO_rep {w : World} {B : Nat → Prop} {g : Nat → Gh} {env : Env} {a : Act} (hs : Slots w B g env a.tmps) (p : Operand × Nat) : RepV w B g (argO T env p) (a.eval p.1) := by
  obtain ⟨x, t⟩ := p
  unfold argO
  split
  · rename_i h
    simp only at h
    subst h
    unfold nilA
    split
    · split
      · exact .sl0
      · exact .dead
    · exact .dead
  · exact ev_rep hs x
theorem args_rep {w : World} {B : Nat → Prop} {g : Nat → Gh} {env : Env} {a : Act} (hs : Slots w B g env a.tmps) : ∀ (l : List Operand) (ts : List Nat), ts.length = l.length →
    RepL w B g ((l.zip ts).map (argO T env)) (l.map a.eval) := by
  intro l ts h
  refine ⟨by simp [h], fun i x v h1 h2 => ?_⟩
  rw [List.getElem?_map] at h1 h2
  obtain ⟨p, hp, rfl⟩ := Option.map_eq_some_iff.1 h1
  obtain ⟨y, hy, rfl⟩ := Option.map_eq_some_iff.1 h2
  have := List.getElem?_zip_eq_some.1 hp
  rw [hy] at this
  have e : p.1 = y := (Option.some.inj this.1).symm
  rw [← e]
  exact argO_rep hs p
theorem snap_mem {keep : List Nat} {x y : SV} {args : List SV} {j : Nat} (hx : x ∈ args) (hy : y ∈ x.cells) (hj : y = .osl j ∨ ∃ lo hi, y = .vw j lo hi) (hk : ∀ i : Nat, keep[i]? ≠ some j) : j ∈ args.flatMap (snapIds keep) := by
  rw [List.mem_flatMap]
  refine ⟨x, hx, ?_⟩
  unfold snapIds
  rw [List.mem_flatMap]
  refine ⟨y, hy, ?_⟩
  rcases hj with rfl | ⟨lo, hi, rfl⟩
  · simp only
    split
    · rename_i i hi
      exact absurd (place_get hi) (hk i)
    · simp
  · simp
theorem notKeep_argV {os : List SO} {keep : List Nat} : ∀ {xs ys : List SV}, argVs os keep xs = some ys → ∀ x, x ∈ xs → ∃ y, argV os keep x = some y
  | [], _, _, x, hx => by simp at hx
  | z :: zs, ys, h, x, hx => by
    simp only [argVs] at h
    split at h
    · rename_i y ys' hy hys
      rcases List.mem_cons.1 hx with rfl | hx
      · exact ⟨y, hy⟩
      · exact notKeep_argV hys x hx
    · simp at h
theorem notKeep_argCell {os : List SO} {keep : List Nat} : ∀ {xs ys : List SV}, argCells os keep xs = some ys → ∀ x, x ∈ xs → ∃ y, argCell os keep x = some y
  | [], _, _, x, hx => by simp at hx
  | z :: zs, ys, h, x, hx => by
    simp only [argCells] at h
    split at h
    · rename_i y ys' hy hys
      rcases List.mem_cons.1 hx with rfl | hx
      · exact ⟨y, hy⟩
      · exact notKeep_argCell hys x hx
    · simp at h
theorem notKeep_cells {os : List SO} {keep : List Nat} {x y : SV} (h : argV os keep x = some y) : ∀ z, z ∈ x.cells → ∃ y, argCell os keep z = some y := by
  intro z hz
  unfold argV at h
  split at h
  · split at h
    · rename_i l ys hys
      exact notKeep_argCell hys z hz
    · simp at h
  · rename_i hna
    have e : x.cells = [x] := by cases x <;> first | rfl | exact absurd rfl (hna _)
    rw [e] at hz
    simp at hz
    subst hz
    exact ⟨y, h⟩
theorem place_some : ∀ {keep : List Nat} {i j : Nat}, keep[i]? = some j → ∃ k, place keep j = some k
  | [], i, j, h => by simp at h
  | k :: ks, i, j, h => by
    simp only [place]
    split
    · exact ⟨_, rfl⟩
    · rename_i hne
      cases i with
      | zero => simp at h; exact absurd h hne
      | succ i =>
        obtain ⟨q, hq⟩ := place_some (keep := ks) (i := i) (j := j) (by simpa using h)
        rw [hq]; exact ⟨_, rfl⟩
theorem snap_not {os : List SO} {keep : List Nat} {args ys : List SV} (h : argVs os keep args = some ys) {j : Nat} (hj : j ∈ args.flatMap (snapIds keep)) : ∀ i : Nat, keep[i]? ≠ some j := by
  intro i hi
  obtain ⟨k, hk⟩ := place_some hi
  rw [List.mem_flatMap] at hj
  obtain ⟨x, hx, hj⟩ := hj
  obtain ⟨y, hy⟩ := notKeep_argV h x hx
  unfold snapIds at hj
  rw [List.mem_flatMap] at hj
  obtain ⟨z, hz, hj⟩ := hj
  obtain ⟨u, hu⟩ := notKeep_cells hy z hz
  split at hj
  · rename_i j'
    split at hj
    · simp at hj
    · rename_i hp
      simp at hj
      subst hj
      rw [hk] at hp; cases hp
  · rename_i j' lo hi'
    simp at hj
    subst hj
    simp only [argCell, hk] at hu
    cases hu
  · simp at hj
theorem freeze_own : ∀ (js : List Nat) {os os1 : List SO}, freeze js os = some os1 → ∀ j, j ∈ js → (os.getD j .dead).own = true := by
  intro js
  induction js with
  | nil => intro os os1 h j hj; simp at hj
  | cons k ks ih =>
    intro os os1 h j hj
    simp only [freeze] at h
    split at h
    · rename_i sz l hk
      by_cases e : j = k
      · subst e; rw [List.getD_eq_getElem?_getD, hk]; rfl
      · have := ih h j (by simpa [e] using hj)
        rw [List.getD_eq_getElem?_getD, List.getElem?_set, if_neg (fun e' => e e'.symm)] at this
        rw [List.getD_eq_getElem?_getD]; exact this
    · rename_i sz l hk
      by_cases e : j = k
      · subst e; rw [List.getD_eq_getElem?_getD, hk]; rfl
      · exact ih h j (by simpa [e] using hj)
    · simp at h
theorem freeze_arr : ∀ (js : List Nat) {os os1 : List SO}, freeze js os = some os1 → ∀ j, j ∈ js → ∃ sz l, os[j]? = some (.arr false sz l) ∨ os[j]? = some (.frz sz l) := by
  intro js
  induction js with
  | nil => intro os os1 h j hj; simp at hj
  | cons k ks ih =>
    intro os os1 h j hj
    simp only [freeze] at h
    split at h
    · rename_i sz l hk
      by_cases e : j = k
      · subst e; exact ⟨sz, l, .inl hk⟩
      · obtain ⟨sz', l', h9⟩ := ih h j (by simpa [e] using hj)
        rw [List.getElem?_set, if_neg (fun e' => e e'.symm)] at h9
        exact ⟨sz', l', h9⟩
    · rename_i sz l hk
      by_cases e : j = k
      · subst e; exact ⟨sz, l, .inr hk⟩
      · exact ih h j (by simpa [e] using hj)
    · simp at h
theorem call_rep {c : Cx} (hK : KOK P c.K) {fr : Fr} {os os1 : List SO} {g : Nat → Gh} {w : World} (hm : Mem fr os g w) {f : Nat} {args : List SV} {vals : List Value} {y : SV} (ha : RepL w (Bk fr os g w) g args vals)
    (h : callS c os f args = some (y, os1)) : FnOK P f ∧ os.length ≤ os1.length ∧ Calls P f vals.toArray w fun e w' => ∃ v, e = .returned v ∧ Res fr os g w os1 y v w' := by
  unfold callS at h
  split at h
  · simp at h
  rename_i keep hkeep
  obtain ⟨hn, -, -⟩ := okKeep_of hkeep
  split at h
  · simp at h
  rename_i as has
  split at h
  rotate_left
  · simp at h
  rename_i hth
  split at h
  · simp at h
  rename_i r los hcall
  split at h
  · simp at h
  rename_i os0 hfrz
  split at h
  · simp at h
  rename_i os1' hgb
  split at h
  rotate_left
  · simp at h
  rename_i hown
  obtain ⟨rfl, rfl⟩ := Prod.mk.inj (Option.some.inj h)
  obtain ⟨hfn, hcalls⟩ := hK f as _ los r hcall
  have hll : (lent keep os).length = keep.length := by simp [lent, gcO]
  have hfz : ∃ os0', True ∧ freeze (args.flatMap (snapIds keep)) os = some os0' ∧ os0 = os0' ∨ (hasSl3 r || los.any SO.hasSl) = false ∧ os0 = os := by
    split at hfrz
    · exact ⟨os0, .inl ⟨trivial, hfrz, rfl⟩⟩
    · rename_i hc
      have hc' := eq_false_of_ne_true hc
      rw [Bool.or_eq_false_iff] at hc'
      exact ⟨os, .inr ⟨hc'.2, (Option.some.inj hfrz).symm⟩⟩
  have main : ∀ (A : Nat → Prop), Mem fr os0 g w → Grow fr os g w os0 g w → os0.length = os.length → (∀ i j : Nat, keep[i]? = some j → os0[j]? = os[j]?) → (∀ b, Bk fr os g w b → A b) →
      (∀ j, j ∈ args.flatMap (snapIds keep) → ∀ o b, os[j]? = some o → o.isLive = true → (g j).has b → A b) →
      ((∀ b, b < w.heap.size → A b → (b < fr.N → fr.A b) ∧ ¬ live os0 g b) ∨ (hasSl3 r || los.any SO.hasSl) = false) →
      os.length ≤ (os1' ++ (los.drop keep.length).map (fun o => (o.ren (backName keep os.length)).back (anyLent os keep))).length ∧ Calls P f vals.toArray w fun e w' => ∃ v, e = .returned v ∧ Res fr os g w (os1' ++ (los.drop keep.length).map (fun o => (o.ren (backName keep os.length)).back (anyLent os keep))) (ren3 (backName keep os.length) r) v w' := by
    intro A hm0 hgr hlen hsame hA hsn hsl
    have hlen1 : os1'.length = os.length := by
      obtain ⟨b1, -, -⟩ := giveBack_of _ keep los os0 os1' hn hgb
      rw [b1, hlen]
    refine ⟨by simp [hlen1], ?_⟩
    have hmem := lent_mem hm hn hA
    have hargs := argVs_rep hm hA args ha has (fun x hx z hz j hj hk => hsn j (snap_mem hx hz hj hk))
    refine Calls.mono (hcalls A _ (gk g keep) vals w (fun b hb => hb) hmem hargs) ?_
    rintro e w' ⟨v, g', rfl, hmc, hg', hr, hle⟩
    have hle' : keep.length ≤ los.length := by
      have : (lent keep os).length ≤ los.length := hle
      rwa [hll] at this
    have hg'' : ∀ i, i < keep.length → gk g keep i ≠ .no → g' i = gk g keep i := fun i hi => hg' i (by
      have : i < (lent keep os).length := by rw [hll]; exact hi
      exact this)
    have hslb : (∀ b, b < w.heap.size → A b → (b < fr.N → fr.A b) ∧ ¬ live os0 g b) ∨ los.any SO.hasSl = false := hsl.imp_right fun h => by
      rw [Bool.or_eq_false_iff] at h; exact h.2
    have hslr : (∀ b, b < w.heap.size → A b → (b < fr.N → fr.A b) ∧ ¬ live os0 g b) ∨ hasSl3 r = false := hsl.imp_right fun h => by
      rw [Bool.or_eq_false_iff] at h; exact h.1
    obtain ⟨m, gr, rp⟩ := back_mem hm hn hm0 hlen hsame hth hmc hg'' hle' hgb hslb
    exact ⟨v, rfl, _, m, hgr.trans gr, rp r v hr hslr⟩
  obtain ⟨os0', ⟨hc, hf, rfl⟩ | ⟨hc, rfl⟩⟩ := hfz
  · obtain ⟨f1, f2, f3, f4, f5⟩ := freeze_of _ hm hf
    refine ⟨hfn, main (fun b => Bk fr os0 g w b) f1 f2 f3 (fun i j hi => ?_) f2.sub (fun j hj o b ho hlv hb => ?_) (.inl fun b _ hb => hb.2)⟩
    · exact f4 j fun hj => snap_not has hj i hi
    · obtain ⟨sz, l, hoa⟩ := freeze_arr _ hf j hj
      obtain ⟨lt, sz, l, rfl⟩ : ∃ lt sz l, o = .arr lt sz l := by
        rcases hoa with hoa | hoa
        · rw [ho] at hoa; exact ⟨_, _, _, Option.some.inj hoa⟩
        · rw [ho] at hoa; obtain rfl := Option.some.inj hoa; cases hlv
      refine ⟨(hm.own b ⟨j, _, ho, rfl, hb⟩).1, fun hN => ?_, fun hl => ?_⟩
      · -- an array that was frozen is the frame's own
        obtain ⟨sz', l', hz⟩ := f5 j hj
        have hlt : lt = false := by
          have := freeze_own _ hf j hj
          rw [List.getD_eq_getElem?_getD, ho] at this
          cases lt
          · rfl
          · cases this
        subst hlt
        exact absurd hN (Nat.not_lt.2 (hm.mine j sz l b ho hb))
      · obtain ⟨k, o, hk, hkl, hkb⟩ := hl
        have hkn : k ∉ args.flatMap (snapIds keep) := fun hin => by
          obtain ⟨sz', l', hz⟩ := f5 k hin
          rw [hz] at hk; obtain rfl := Option.some.inj hk; cases hkl
        have hk' : os[k]? = some o := by rw [← f4 k hkn]; exact hk
        have := hm.inj k j o _ b hk' ho hkl rfl hkb hb
        subst this
        exact hkn hj
  · exact ⟨hfn, main (fun _ => True) hm (Grow.refl _ _ _ _) rfl (fun _ _ _ => rfl) (fun _ _ => trivial) (fun _ _ _ _ _ _ _ => trivial) (.inr hc)⟩
theorem call_ok {c : Cx} (hK : KOK P c.K) {fr : Fr} {os os1 : List SO} {g : Nat → Gh} {w : World} (hm : Mem fr os g w) {env : Env} {a : Act} (hs : Slots w (Bk fr os g w) g env a.tmps) {o : Oper} {f : Operand} {args : Array Operand} {ts : Array TypeId} {y : SV}
    (ho : o.op = .call { callee := .value f, args := args, argTypes := ts }) (hsz : ts.size = args.size) (h : calleeS c os (ev env f) ((args.toList.zip ts.toList).map (argO c.T env)) = some (y, os1)) :
    OpOK P fr os g w os1 y o a ∧ os.length ≤ os1.length := by
  unfold calleeS at h
  split at h
  · rename_i f' caps he
    have hf := ev_rep hs f
    rw [he] at hf
    generalize hfv : a.eval f = fv at hf
    cases hf with
    | fn h1 h2 =>
      rename_i vs
      have ha : RepL w (Bk fr os g w) g ((args.toList.zip ts.toList).map (argO c.T env) ++ caps) (args.toList.map a.eval ++ vs) :=
        (args_rep hs args.toList ts.toList (by simpa using hsz)).append ⟨h1, h2⟩
      obtain ⟨⟨fn, b, hfn, hname, hb⟩, hle, hcalls⟩ := call_rep hK hm ha h
      refine ⟨?_, hle⟩
      intro next Q hn
      have hrun : (execOp a.eval o).run P w = .ok (.enter f' (args.toList.map a.eval ++ vs).toArray) w := by
        have e : args.map a.eval ++ vs.toArray = (args.toList.map a.eval ++ vs).toArray := by
          apply Array.toList_inj.1; simp
        have hname' : ¬ fn.name = "runtime.NumGoroutine" := by simpa using hname
        simp [execOp, ho, resolve, hfv, Deferred.ofValue, invoke, callFunc, hfn, hname', hb, e]
      unfold Oper.wp
      rw [hrun]
      refine Calls.mono hcalls ?_
      rintro e w' ⟨v, rfl, hres⟩
      exact hn v w' hres
  · simp at h
theorem callOK {c : Cx} (hK : KOK P c.K) : CallOK P c :=
  fun fr os os1 g w env a o f args ts y hm hs ho hsz h => (call_ok hK hm hs ho hsz h).1
end Go.Proofs.YtebaiioejagfoaaGreatDoor

/- The evaluator S: no operation takes an object away. -/
namespace Go.Proofs.YtebaiioejagfoaaGreatDoor
open Go
set_option linter.unusedVariables false
set_option linter.unusedSimpArgs false
variable {P : Program} {T : Tab}
theorem zeroS_len : ∀ (z : List ZK) (os : List SO), os.length ≤ (zeroS z os).2.length
  | [], os => Nat.le_refl _
  | .sl sz :: zs, os => by
    simp only [zeroS]
    have := zeroS_len zs (os ++ [.arr false sz []])
    simp at this; omega
  | .int _ :: zs, os => zeroS_len zs os
  | .bool :: zs, os => zeroS_len zs os
  | .str :: zs, os => zeroS_len zs os
  | .fn :: zs, os => zeroS_len zs os
  | .ptr :: zs, os => zeroS_len zs os
theorem pureCell_len {os os1 : List SO} {x y : SV} (h : pureCell os x = some (y, os1)) : os.length = os1.length := by
  unfold pureCell at h
  split at h
  · cases h; rfl
  · cases h; rfl
  · split at h
    · cases h; simp
    · cases h; rfl
    · cases h
  · split at h
    · split at h
      · cases h; simp
      · cases h
    · split at h
      · cases h; rfl
      · cases h
    · cases h
  · cases h
theorem deVw_len {os os1 : List SO} {x y : SV} (h : deVw os x = some (y, os1)) : os.length = os1.length := by
  unfold deVw at h
  split at h
  · exact pureCell_len h
  · cases h; rfl
theorem pureCells_len : ∀ {l : List SV} {os os1 : List SO} {ys : List SV}, pureCells l os = some (ys, os1) → os.length = os1.length
  | [], _, _, _, h => by simp [pureCells] at h; rw [h.2]
  | x :: xs, os, os1, ys, h => by
    simp only [pureCells] at h
    split at h
    · rename_i y os2 hy
      split at h
      · rename_i ys' os3 hys
        cases h
        exact (pureCell_len hy).trans (pureCells_len hys)
      · cases h
    · cases h
theorem pureS_len {os os1 : List SO} {x y : SV} (h : pureS os x = some (y, os1)) : os.length = os1.length := by
  unfold pureS at h
  split at h
  · split at h
    · rename_i hys; cases h; exact pureCells_len hys
    · cases h
  · exact pureCell_len h
theorem pureL_len : ∀ {l : List SV} {os os1 : List SO} {ys : List SV}, pureL l os = some (ys, os1) → os.length = os1.length
  | [], _, _, _, h => by simp [pureL] at h; rw [h.2]
  | x :: xs, os, os1, ys, h => by
    simp only [pureL] at h
    split at h
    · rename_i y os2 hy
      split at h
      · rename_i ys' os3 hys
        cases h
        exact (pureS_len hy).trans (pureL_len hys)
      · cases h
    · cases h
theorem storeS_len {os os1 : List SO} {t : Nat} {p x : SV} (h : storeS T os t p x = some os1) : os.length = os1.length := by
  unfold storeS at h
  split at h
  · split at h
    · split at h
      · split at h
        · split at h
          · cases h; simp
          · cases h
        · cases h
      · split at h
        · rename_i hys
          have hl := pureCells_len hys
          split at h
          · split at h
            · split at h
              · split at h
                · cases h; simp [hl]
                · cases h
              · cases h
            · cases h
          · cases h
        · cases h
      · cases h
    · cases h
  · cases h
theorem partsN_len {fs : List (Nat × Nat)} : ∀ {ps : List (Nat × Option SV)} {os os1 : List SO} {r : List (Nat × SV)}, partsN T fs ps os = some (r, os1) → os.length ≤ os1.length
  | [], _, _, _, h => by simp [partsN] at h; rw [h.2]; exact Nat.le_refl _
  | (f, x) :: ps, os, os1, r, h => by
    simp only [partsN] at h
    split at h
    · split at h
      · rename_i hy
        split at h
        · split at h
          · rename_i hps
            cases h
            exact Nat.le_trans (evN_len hy) (partsN_len hps)
          · cases h
        · cases h
      · cases h
    · cases h
theorem op_len {c : Cx} {os os1 : List SO} {env : Env} {o : Oper} {y : SV}
    (hcall : ∀ (f : Operand) (args : Array Operand) (ts : Array TypeId), o.op = .call { callee := .value f, args := args, argTypes := ts } → ts.size = args.size → calleeS c os (ev env f) ((args.toList.zip ts.toList).map (argO c.T env)) = some (y, os1) → os.length ≤ os1.length)
    (h : opS c env os o = some (y, os1)) : os.length ≤ os1.length := by
  have R : ∀ {x : Option SV}, ret1 x os = some (y, os1) → os.length ≤ os1.length := fun h => by rw [(ret1_eq h).2]; exact Nat.le_refl _
  unfold opS at h
  split at h
  · exact evN_len h
  · exact evN_len h
  · exact R h
  · unfold allocS at h
    split at h
    · rename_i i hi
      cases h
      have := zeroS_len i.zero os
      simp; omega
    · cases h
  · unfold boxS at h
    split at h
    · rename_i hy
      split at h
      · cases h; have := evN_len hy; simp; omega
      · cases h
    · cases h
  · unfold buildS at h
    split at h
    · split at h
      · split at h
        · rename_i hp
          simp only at h
          split at h
          · cases h
            exact Nat.le_trans (partsN_len hp) (zeroS_len _ _)
          · cases h
        · cases h
      · cases h
    · cases h
  · unfold buildSliceS at h
    split at h
    · split at h
      · split at h
        · split at h
          · rename_i hp
            split at h
            · cases h; have := pureL_len hp; simp; omega
            · cases h
          · cases h
        · cases h
      · cases h
    · cases h
  · exact R h
  · unfold storeO at h
    split at h
    · rename_i hz
      split at h
      · rename_i hd
        split at h
        · rename_i hs
          cases h
          have := storeS_len hs
          have := evN_len hz
          have := deVw_len hd
          omega
        · cases h
      · cases h
    · cases h
  · exact R h
  · exact R h
  · exact R h
  · unfold convS at h
    split at h
    · cases h; exact Nat.le_refl _
    · split at h
      · split at h
        · cases h; exact Nat.le_refl _
        · cases h
      · cases h
    · split at h
      · cases h; simp
      · cases h
    · cases h; exact Nat.le_refl _
    · cases h
  · unfold makeS at h
    split at h
    · split at h
      · split at h
        · split at h
          · cases h; simp
          · cases h
        · cases h
      · cases h
    · cases h
  · exact R h
  · exact R h
  · exact R h
  · exact R h
  · exact R h
  · exact R h
  · exact R h
  · split at h
    · cases h; exact Nat.le_refl _
    · cases h
  · split at h
    · unfold builtinS at h
      split at h
      · unfold lenO at h
        split at h
        · cases h; exact Nat.le_refl _
        · cases h
      · unfold appendS at h
        split at h
        · split at h
          · split at h
            · cases h; simp
            · cases h
          · cases h
        · cases h
      · unfold copyS at h
        split at h
        · split at h
          · split at h
            · cases h; simp
            · cases h
          · cases h
        · split at h
          · split at h
            · cases h; simp
            · cases h
          · cases h
        · cases h
      · exact R h
      · exact R h
      · cases h
    · cases h
  · rename_i f args ts ho
    split at h
    · rename_i hsz
      exact hcall f args ts ho hsz h
    · cases h
  · cases h
theorem ops_ok {c : Cx} (hT : TabOk P c.T) (hK : KOK P c.K) : OpsOK P c := by
  intro fr os os1 g w env a o y hm hs h
  refine ⟨op_rep hT (callOK hK) hm hs h, op_len (fun f args ts ho hsz hc => ?_) h⟩
  exact (call_ok hK hm hs ho hsz hc).2
end Go.Proofs.YtebaiioejagfoaaGreatDoor

/- The evaluator S: regions whose order is drawn. First: what an operation hangs on. -/
namespace Go.Proofs.YtebaiioejagfoaaGreatDoor
open Go
set_option linter.unusedVariables false
set_option linter.unusedSimpArgs false
variable {P : Program} {T : Tab}
theorem evP_congr {env env' : Env} {x : Operand} (h : ev env x = ev env' x) : evP env x = evP env' x := by
  unfold evP
  split
  · rfl
  · rw [h]
theorem argO_congr {env env' : Env} {p : Operand × Nat} (h : ev env p.1 = ev env' p.1) : argO T env p = argO T env' p := by
  unfold argO
  split
  · rfl
  · exact h
theorem map_congr' {α β : Type} {f g : α → β} : ∀ (l : List α), (∀ x, x ∈ l → f x = g x) → l.map f = l.map g := fun l h => List.map_congr_left h
theorem opS_congr {c : Cx} {env env' : Env} {os : List SO} {o : Oper} (h : ∀ x, x ∈ o.op.operands → ev env x = ev env' x) : opS c env os o = opS c env' os o := by
  obtain ⟨dst, op, type, pos, after, guard⟩ := o
  have hP : ∀ x, x ∈ op.operands → evP env x = evP env' x := fun x hx => evP_congr (h x hx)
  cases op <;> simp only [Op.operands] at h hP
  case move x => simp only [opS, hP x (by simp)]
  case assign x => simp only [opS, hP x (by simp)]
  case pick b x y => simp only [opS, h b (by simp), h x (by simp), h y (by simp)]
  case alloc t => rfl
  case box t x => simp only [opS, hP x (by simp)]
  case build t ps =>
    have : ps.toList.map (fun p => (p.1, evP env p.2)) = ps.toList.map (fun p => (p.1, evP env' p.2)) := map_congr' _ fun p hp => by
      rw [hP p.2 (by simp only [List.mem_toArray, List.mem_map]; exact ⟨p, hp, rfl⟩)]
    simp only [opS, this]
  case buildSlice t n ps =>
    have : ps.toList.map (fun p => (p.1, ev env p.2)) = ps.toList.map (fun p => (p.1, ev env' p.2)) := map_congr' _ fun p hp => by
      rw [h p.2 (by simp only [List.mem_toArray, List.mem_map]; exact ⟨p, hp, rfl⟩)]
    simp only [opS, this]
  case load t x => simp only [opS, h x (by simp)]
  case store t x y => simp only [opS, h x (by simp), hP y (by simp)]
  case nilCheck x => simp only [opS, h x (by simp)]
  case binOp b t x y z => simp only [opS, h x (by simp), h y (by simp)]
  case unOp u t x => simp only [opS, h x (by simp)]
  case convert s d x => simp only [opS, h x (by simp)]
  case makeSlice t x y => simp only [opS, h x (by simp), h y (by simp)]
  case slice t x lo hi mx =>
    cases mx with
    | some m =>
      cases lo with
      | some l => rfl
      | none =>
        cases hi with
        | none => rfl
        | some z => simp only [opS, h x (by simp), h z (by simp), h m (by simp)]
    | none =>
      have h1 : lo.map (ev env) = lo.map (ev env') := by
        cases lo with
        | none => rfl
        | some z => simp only [Option.map_some, h z (by simp)]
      have h2 : hi.map (ev env) = hi.map (ev env') := by
        cases hi with
        | none => rfl
        | some z => simp only [Option.map_some, h z (by simp)]
      simp only [opS, h x (by simp), h1, h2]
  case fieldAddr t x f => simp only [opS, h x (by simp)]
  case field t x f => simp only [opS, h x (by simp)]
  case indexAddr t x y => simp only [opS, h x (by simp), h y (by simp)]
  case index t x y => simp only [opS, h x (by simp), h y (by simp)]
  case extract x i => simp only [opS, h x (by simp)]
  case makeFunc fn first captured =>
    have : captured.toList.map (ev env) = captured.toList.map (ev env') := map_congr' _ fun p hp => h p (by simp at hp; simp [hp])
    cases fn <;> simp only [opS, this]
  case call cl =>
    obtain ⟨callee, args, ats⟩ := cl
    cases callee with
    | invoke r m => rfl
    | builtin b =>
      have : args.toList.map (ev env) = args.toList.map (ev env') := map_congr' _ fun p hp => h p (by simp at hp; simp [Call.operands, hp])
      simp only [opS, this]
    | value f =>
      have : (args.toList.zip ats.toList).map (argO c.T env) = (args.toList.zip ats.toList).map (argO c.T env') := map_congr' _ fun p hp => argO_congr (h p.1 (by
        have := (List.of_mem_zip hp).1
        simp at this; simp [Call.operands, this]))
      simp only [opS, this, h f (by simp [Call.operands])]
  all_goals rfl
theorem look_kill_in (env : Env) (t : Nat) : ∀ (al : List Nat), t ∈ al → look t (killS al env) = look t env := by
  intro al
  induction al with
  | nil => intro h; cases h
  | cons x xs ih =>
    intro h
    simp only [killS, look]
    split
    · rename_i e; rw [Nat.eq_of_beq_eq_true e]
    · rename_i e
      rcases List.mem_cons.1 h with rfl | h
      · rw [Nat.beq_refl] at e; cases e
      · exact ih h
theorem look_kill_or (env : Env) (t : Nat) : ∀ (al : List Nat), (t ∈ al ∧ look t (killS al env) = look t env) ∨ look t (killS al env) = .dead := by
  intro al
  by_cases h : t ∈ al
  · exact .inl ⟨h, look_kill_in env t al h⟩
  · refine .inr ?_
    induction al with
    | nil => rfl
    | cons x xs ih =>
      simp only [killS, look]
      split
      · rename_i e; rw [Nat.eq_of_beq_eq_true e] at h; simp at h
      · exact ih (fun hh => h (List.mem_cons_of_mem _ hh))
theorem ev_kill {env : Env} {al : List Nat} {x : Operand} (h : ∀ t, x = .tmp t → t ∈ al) : ev (killS al env) x = ev env x := by
  cases x with
  | tmp t => exact look_kill_in env t al (h t rfl)
  | const v => rfl
  | func f => rfl
  | global g => rfl
theorem op1_kill {c : Cx} {ops : List Oper} {env : Env} {os : List SO} {o : Oper} : op1 c ops (killS (tmpsOf ops o) env) os o = op1 c ops env os o := by
  have hop : opS c (killS (tmpsOf ops o) env) os o = opS c env os o := opS_congr fun x hx => ev_kill fun t e => by
    subst e
    unfold tmpsOf
    refine List.mem_append.2 (.inl (List.mem_filterMap.2 ⟨_, by simpa using hx, rfl⟩))
  unfold op1
  cases hg : o.guard with
  | none => exact hop
  | some p =>
    obtain ⟨j, want⟩ := p
    have hgv : guardV ops (killS (tmpsOf ops o) env) j = guardV ops env j := by
      unfold guardV
      cases hj : ops[j]? with
      | none => rfl
      | some q =>
        cases hd : q.dst with
        | none => simp only [hd]
        | some t =>
          simp only [hd]
          refine look_kill_in env t _ ?_
          unfold tmpsOf
          refine List.mem_append.2 (.inr ?_)
          simp [hg, hj, hd]
    simp only [hop, hgv]
theorem p_any {c : Cx} {env : Env} {os os1 : List SO} {o : Oper} {x : SV} (hc : cls c.T o.op = .p) (h : opS c env os o = some (x, os1)) :
    os1 = os ∧ ∀ os2, opS c env os2 o = some (x, os2) := by
  have R : ∀ {y : Option SV}, ret1 y os = some (x, os1) → os1 = os ∧ ∀ os2, ret1 y os2 = some (x, os2) := fun h => by
    obtain ⟨h1, h2⟩ := ret1_eq h
    exact ⟨h2, fun os2 => by rw [h1]; rfl⟩
  obtain ⟨dst, op, type, pos, after, guard⟩ := o
  have N : ∀ y : Operand, y ≠ .const (.slice none 0 0) → ∀ os, evN c.T type os (evP env y) = some (ev env y, os) := fun y hy os => by
    unfold evP
    split
    · exact absurd rfl hy
    · rfl
  cases op <;> simp only [opS] at h ⊢
  case move y =>
    have hy : y ≠ .const (.slice none 0 0) := fun e => by subst e; simp [cls] at hc
    rw [N y hy] at h; cases h
    exact ⟨rfl, fun os2 => N y hy os2⟩
  case assign y =>
    have hy : y ≠ .const (.slice none 0 0) := fun e => by subst e; simp [cls] at hc
    rw [N y hy] at h; cases h
    exact ⟨rfl, fun os2 => N y hy os2⟩
  case pick b y z => exact R h
  case nilCheck y => exact R h
  case binOp b t y z u => exact R h
  case unOp u t y => exact R h
  case fieldAddr t y f => exact R h
  case field t y f => exact R h
  case index t y z => exact R h
  case extract y i => exact R h
  case makeFunc fn first captured =>
    cases fn with
    | func f =>
      simp only at h ⊢
      split at h
      · rename_i hf; cases h; exact ⟨rfl, fun os2 => by first | rfl | simp [hf]⟩
      · cases h
    | _ => cases h
  case convert s d y =>
    simp only [cls] at hc
    split at hc
    · rename_i k k' h1 h2
      unfold convS at h ⊢
      simp only [h1, h2] at h ⊢
      split at h
      · rename_i e1 e2 e3; cases h; cases e1; cases e2; simp [e3]
      · rename_i e1 e2; cases e1
      · rename_i e1 e2; cases e1
      · rename_i e1 e2; cases e1
      · cases h
    · cases hc
  case call cl =>
    obtain ⟨callee, args, ats⟩ := cl
    cases callee with
    | builtin b =>
      simp only at h ⊢
      split at h
      · rename_i hsz
        cases b <;> simp [cls] at hc
        all_goals
          unfold builtinS at h ⊢
          split at h <;> first | (rename_i e1 e2; cases e1; done) | (cases h; done) | skip
          rename_i e2
          refine ⟨(R h).1, fun os2 => ?_⟩
          rw [if_pos hsz]
          exact (R h).2 os2
      · cases h
    | value f => simp [cls] at hc
    | invoke r m => simp [cls] at hc; try cases h
  all_goals first | (simp [cls] at hc; done) | (cases h; done)
end Go.Proofs.YtebaiioejagfoaaGreatDoor

/- The evaluator S: regions whose order is drawn. What is kept beside a read; the static check. -/
namespace Go.Proofs.YtebaiioejagfoaaGreatDoor
open Go
set_option linter.unusedVariables false
set_option linter.unusedSimpArgs false
variable {P : Program} {T : Tab}
def KeptB (q : Nat) (os os1 : List SO) : Prop := os.length ≤ os1.length ∧ (q < os.length → ∀ l, os[q]? = some (.box l) ↔ os1[q]? = some (.box l))
theorem KeptB.refl (q : Nat) (os : List SO) : KeptB q os os := ⟨Nat.le_refl _, fun _ _ => Iff.rfl⟩
theorem KeptB.trans {q : Nat} {os os1 os2 : List SO} (h : KeptB q os os1) (h' : KeptB q os1 os2) : KeptB q os os2 :=
  ⟨Nat.le_trans h.1 h'.1, fun hq l => (h.2 hq l).trans (h'.2 (Nat.lt_of_lt_of_le hq h.1) l)⟩
theorem KeptB.app (q : Nat) (os r : List SO) : KeptB q os (os ++ r) :=
  ⟨by simp, fun hq l => by rw [List.getElem?_append_left hq]⟩
theorem evN_kept {q ty : Nat} {os os' : List SO} {x : Option SV} {y : SV} (h : evN T ty os x = some (y, os')) : KeptB q os os' := by
  unfold evN at h
  split at h
  · split at h
    · split at h
      · obtain ⟨_, rfl⟩ := Prod.mk.inj (Option.some.inj h); exact KeptB.app _ _ _
      · simp at h
    · simp at h
  · obtain ⟨_, rfl⟩ := Prod.mk.inj (Option.some.inj h); exact KeptB.refl _ _
theorem zeroS_kept {q : Nat} : ∀ (z : List ZK) (os : List SO), KeptB q os (zeroS z os).2
  | [], os => KeptB.refl _ _
  | .sl sz :: zs, os => by
    simp only [zeroS]
    exact (KeptB.app _ _ _).trans (zeroS_kept zs (os ++ [.arr false sz []]))
  | .int _ :: zs, os => zeroS_kept zs os
  | .bool :: zs, os => zeroS_kept zs os
  | .str :: zs, os => zeroS_kept zs os
  | .fn :: zs, os => zeroS_kept zs os
  | .ptr :: zs, os => zeroS_kept zs os
theorem frz_kept {q j sz : Nat} {os : List SO} {l : List SV} {b : Bool} (hj : os[j]? = some (.arr b sz l)) : KeptB q os (os.set j (.frz sz l)) := by
  refine ⟨by simp, fun hq l' => ?_⟩
  rw [List.getElem?_set]
  by_cases e : j = q
  · subst e
    rw [if_pos rfl, hj]
    split <;> simp
  · rw [if_neg e]
theorem pureCell_kept {q : Nat} {os os1 : List SO} {x y : SV} (h : pureCell os x = some (y, os1)) : KeptB q os os1 := by
  unfold pureCell at h
  split at h
  · cases h; exact KeptB.refl _ _
  · cases h; exact KeptB.refl _ _
  · split at h
    · rename_i hj; cases h; exact frz_kept hj
    · cases h; exact KeptB.refl _ _
    · cases h
  · split at h
    · rename_i hj
      split at h
      · cases h; exact frz_kept hj
      · cases h
    · split at h
      · cases h; exact KeptB.refl _ _
      · cases h
    · cases h
  · cases h
theorem pureCells_kept {q : Nat} : ∀ {l : List SV} {os os1 : List SO} {ys : List SV}, pureCells l os = some (ys, os1) → KeptB q os os1
  | [], _, _, _, h => by simp [pureCells] at h; rw [h.2]; exact KeptB.refl _ _
  | x :: xs, os, os1, ys, h => by
    simp only [pureCells] at h
    split at h
    · rename_i y os2 hy
      split at h
      · rename_i ys' os3 hys
        cases h
        exact (pureCell_kept hy).trans (pureCells_kept hys)
      · cases h
    · cases h
theorem pureS_kept {q : Nat} {os os1 : List SO} {x y : SV} (h : pureS os x = some (y, os1)) : KeptB q os os1 := by
  unfold pureS at h
  split at h
  · split at h
    · rename_i hys; cases h; exact pureCells_kept hys
    · cases h
  · exact pureCell_kept h
theorem pureL_kept {q : Nat} : ∀ {l : List SV} {os os1 : List SO} {ys : List SV}, pureL l os = some (ys, os1) → KeptB q os os1
  | [], _, _, _, h => by simp [pureL] at h; rw [h.2]; exact KeptB.refl _ _
  | x :: xs, os, os1, ys, h => by
    simp only [pureL] at h
    split at h
    · rename_i y os2 hy
      split at h
      · rename_i ys' os3 hys
        cases h
        exact (pureS_kept hy).trans (pureL_kept hys)
      · cases h
    · cases h
theorem partsN_kept {q : Nat} {fs : List (Nat × Nat)} : ∀ {ps : List (Nat × Option SV)} {os os1 : List SO} {r : List (Nat × SV)}, partsN T fs ps os = some (r, os1) → KeptB q os os1
  | [], _, _, _, h => by simp [partsN] at h; rw [h.2]; exact KeptB.refl _ _
  | (f, x) :: ps, os, os1, r, h => by
    simp only [partsN] at h
    split at h
    · split at h
      · rename_i hy
        split at h
        · split at h
          · rename_i hps
            cases h
            exact (evN_kept hy).trans (partsN_kept hps)
          · cases h
        · cases h
      · cases h
    · cases h
theorem freeze_kept {q : Nat} : ∀ (js : List Nat) {os os1 : List SO}, freeze js os = some os1 → KeptB q os os1 := by
  intro js
  induction js with
  | nil => intro os os1 h; simp only [freeze, Option.some.injEq] at h; subst h; exact KeptB.refl _ _
  | cons j js ih =>
    intro os os1 h
    simp only [freeze] at h
    split at h
    · rename_i hj; exact (frz_kept hj).trans (ih h)
    · exact ih h
    · cases h
def lendsOf (c : Cx) (os : List SO) (f : SV) (args : List SV) : List Nat :=
  match f with
  | .fn g caps => reach os 100 (lendAll c.own g (args ++ caps)) []
  | _ => []
theorem okKeep_eq {nl : Nat} {l keep : List Nat} (h : okKeep nl l = some keep) : keep = l := by
  unfold okKeep at h
  split at h
  · exact (Option.some.inj h).symm
  · cases h
theorem callee_kept {c : Cx} {q : Nat} {os os1 : List SO} {f : SV} {args : List SV} {y : SV} (h : calleeS c os f args = some (y, os1)) (hq : q ∉ lendsOf c os f args) : KeptB q os os1 := by
  unfold calleeS at h
  split at h
  rotate_left
  · cases h
  unfold lendsOf at hq
  unfold callS at h
  split at h
  · simp at h
  rename_i keep hkeep
  obtain ⟨hn, -, -⟩ := okKeep_of hkeep
  simp only at hq
  have hk := okKeep_eq hkeep
  rw [← hk] at hq
  split at h
  · simp at h
  split at h
  rotate_left
  · simp at h
  split at h
  · simp at h
  rename_i r los hcall
  split at h
  · simp at h
  rename_i os0 hfrz
  split at h
  · simp at h
  rename_i os1' hgb
  split at h
  rotate_left
  · simp at h
  cases h
  have h0 : KeptB q os os0 := by
    split at hfrz
    · exact freeze_kept _ hfrz
    · cases hfrz; exact KeptB.refl _ _
  obtain ⟨b1, b2, -⟩ := giveBack_of _ keep los os0 os1' hn hgb
  have h1 : KeptB q os0 os1' := ⟨by rw [b1]; exact Nat.le_refl _, fun _ l => by
    rw [b2 q fun i hi => hq (List.mem_of_getElem? hi)]⟩
  exact (h0.trans h1).trans (KeptB.app _ _ _)
theorem ext_kept {c : Cx} {q : Nat} {env : Env} {os os1 : List SO} {o : Oper} {x : SV} (hc : cls c.T o.op = .ext) (h : opS c env os o = some (x, os1)) : KeptB q os os1 := by
  obtain ⟨dst, op, type, pos, after, guard⟩ := o
  cases op <;> simp only [opS] at h
  case move y => exact evN_kept h
  case assign y => exact evN_kept h
  case alloc t =>
    unfold allocS at h
    split at h
    · cases h; exact (zeroS_kept _ _).trans (KeptB.app _ _ _)
    · cases h
  case box t y =>
    unfold boxS at h
    split at h
    · rename_i hy
      split at h
      · cases h; exact (evN_kept hy).trans (KeptB.app _ _ _)
      · cases h
    · cases h
  case build t ps =>
    unfold buildS at h
    split at h
    · split at h
      · split at h
        · rename_i hp
          simp only at h
          split at h
          · cases h; exact (partsN_kept hp).trans (zeroS_kept _ _)
          · cases h
        · cases h
      · cases h
    · cases h
  case buildSlice t n ps =>
    unfold buildSliceS at h
    split at h
    · split at h
      · split at h
        · split at h
          · rename_i hp
            split at h
            · cases h; exact (pureL_kept hp).trans (KeptB.app _ _ _)
            · cases h
          · cases h
        · cases h
      · cases h
    · cases h
  case convert s d y => simp only [cls] at hc; split at hc <;> cases hc
  case call cl =>
    obtain ⟨callee, args, ats⟩ := cl
    cases callee with
    | builtin b => cases b <;> simp [cls] at hc
    | value f => simp [cls] at hc
    | invoke r m => simp [cls] at hc
  all_goals first | (simp [cls] at hc; done) | (cases h; done)
theorem rd_same {c : Cx} {env : Env} {os os1 : List SO} {o : Oper} {x : SV} (hc : cls c.T o.op = .rd ∨ cls c.T o.op = .ld) (h : opS c env os o = some (x, os1)) : os1 = os := by
  obtain ⟨dst, op, type, pos, after, guard⟩ := o
  cases op <;> simp only [opS] at h
  case move y => unfold cls at hc; rcases hc with hc | hc <;> (split at hc <;> first | (cases hc; done) | (rename_i e; cases e; done))
  case assign y => unfold cls at hc; rcases hc with hc | hc <;> (split at hc <;> first | (cases hc; done) | (rename_i e; cases e; done))
  case load t y => exact (ret1_eq h).2
  case indexAddr t y z => exact (ret1_eq h).2
  case slice t y lo hi mx =>
    cases mx with
    | none => exact (ret1_eq h).2
    | some m =>
      cases lo with
      | some l => cases h
      | none =>
        cases hi with
        | none => cases h
        | some z => exact (ret1_eq h).2
  case convert s d y => simp only [cls] at hc; split at hc <;> simp at hc
  case call cl =>
    obtain ⟨callee, args, ats⟩ := cl
    cases callee with
    | builtin b =>
      cases b <;> simp [cls] at hc
      simp only at h
      split at h
      · unfold builtinS at h
        split at h
        · unfold lenO at h
          split at h
          · cases h; rfl
          · cases h
        all_goals first | (rename_i e1 _; cases e1; done) | (cases h; done)
      · cases h
    | value f => simp [cls] at hc
    | invoke r m => simp [cls] at hc
  all_goals first | (simp [cls] at hc; done) | (cases h; done)
theorem allI_spec {f : Nat → Oper → Bool} : ∀ {l : List Oper} {k : Nat}, allI f k l = true → ∀ i o, l[i]? = some o → f (k + i) o = true
  | [], _, _, i, o, h => by simp at h
  | x :: xs, k, h, i, o, hi => by
    simp only [allI, Bool.and_eq_true] at h
    cases i with
    | zero => simp at hi; subst hi; exact h.1
    | succ i =>
      have := allI_spec h.2 i o (by simpa using hi)
      rw [show k + (i + 1) = k + 1 + i by omega]; exact this
theorem fold_bit {acc : List Nat} {e : Nat} : ∀ (l : List Nat) (m : Nat), (l.foldl (fun m e => m ||| (1 <<< e ||| acc.getD e 0)) m).testBit e = true →
    m.testBit e = true ∨ ∃ e1, e1 ∈ l ∧ (e1 = e ∨ (acc.getD e1 0).testBit e = true) := by
  intro l
  induction l with
  | nil => intro m h; exact .inl h
  | cons x xs ih =>
    intro m h
    simp only [List.foldl_cons] at h
    rcases ih _ h with h | ⟨e1, h1, h2⟩
    · rw [Nat.testBit_or, Nat.testBit_or] at h
      simp only [Bool.or_eq_true] at h
      rcases h with h | h | h
      · exact .inl h
      · refine .inr ⟨x, by simp, .inl ?_⟩
        rw [Nat.testBit_shiftLeft] at h
        simp at h
        obtain ⟨h1, h2⟩ := h
        have : e - x = 0 := by
          by_cases h0 : e - x = 0
          · exact h0
          · have := Nat.testBit_one_eq_true_iff_self_eq_zero.1 h2
            omega
        omega
      · exact .inr ⟨x, by simp, .inr h⟩
    · exact .inr ⟨e1, by simp [h1], h2⟩
theorem masks_ok {D : Nat → Prop} {ops : List Oper} (hD : ∀ j o, ops[j]? = some o → D j → ∀ e, e ∈ bindOn o → D e) : ∀ (os : List Oper) (acc : List Nat), ops.drop acc.length = os →
    (∀ j, D j → ∀ e, (acc.getD j 0).testBit e = true → D e) → ∀ j, D j → ∀ e, ((masks acc os).getD j 0).testBit e = true → D e := by
  intro os
  induction os with
  | nil => intro acc _ h; exact h
  | cons o os ih =>
    intro acc hd h
    simp only [masks]
    refine ih _ ?_ ?_
    · rw [List.length_append, List.length_singleton, ← List.drop_drop, hd]; rfl
    · intro j hj e he
      rcases Nat.lt_or_ge j acc.length with hlt | hge
      · refine h j hj e ?_
        rw [List.getD_eq_getElem?_getD, List.getElem?_append_left hlt] at he
        rw [List.getD_eq_getElem?_getD]; exact he
      · rw [List.getD_eq_getElem?_getD, List.getElem?_append_right hge] at he
        cases hk : j - acc.length with
        | succ k => rw [hk] at he; simp at he
        | zero =>
          rw [hk] at he
          simp only [List.getElem?_cons_zero, Option.getD_some] at he
          have hjl : j = acc.length := by omega
          subst hjl
          have ho : ops[acc.length]? = some o := by
            have := congrArg List.head? hd
            simpa [List.head?_drop] using this
          rcases fold_bit _ _ he with h0 | ⟨e1, h1, h2⟩
          · simp at h0
          · have hde := hD _ o ho hj e1 h1
            rcases h2 with rfl | h2
            · exact hde
            · exact h e1 hde e h2
structure Drawn (T : Tab) (ops : List Oper) (ms : List Nat) : Prop where
  low : ∀ (j : Nat) (o : Oper), ops[j]? = some o → ∀ e, e ∈ bindOn o → e < j
  one : ∀ (i j : Nat) (q o : Oper) (s : Nat), ops[i]? = some q → ops[j]? = some o → q.dst = some s → o.dst = some s → i = j
  data : ∀ (i j : Nat) (q o : Oper) (s : Nat), ops[i]? = some q → ops[j]? = some o → q.dst = some s → s ∈ tmpsOf ops o → (i < j ∧ ordB ms i j = true) ∨ (j < i ∧ ordB ms j i = true ∧ (cls T o.op).notLd = true)
  pair : ∀ (i j : Nat) (q o : Oper), ops[i]? = some q → ops[j]? = some o → unord ms i j = true → okPair (cls T q.op) (cls T o.op) = true
theorem drawn_of {ops : List Oper} {ms : List Nat} (h : drawOk T ops ms = true) : Drawn T ops ms := by
  unfold drawOk at h
  have H : ∀ j o, ops[j]? = some o → (bindOn o).all (fun e => Nat.blt e j) = true ∧ allI (okDraw1 T ops ms j o) 0 ops = true := fun j o ho => by
    have := allI_spec h j o ho
    simp only [Nat.zero_add, Bool.and_eq_true] at this
    exact this
  have H2 : ∀ i j q o, ops[i]? = some q → ops[j]? = some o → okDraw1 T ops ms j o i q = true := fun i j q o hi hj => by
    have := allI_spec (H j o hj).2 i q hi
    simpa using this
  refine ⟨fun j o ho e he => ?_, fun i j q o s hi hj hs ht => ?_, fun i j q o s hi hj hs ht => ?_, fun i j q o hi hj hu => ?_⟩
  · have := List.all_eq_true.1 (H j o ho).1 e he
    simpa using this
  · have := H2 i j q o hi hj
    unfold okDraw1 at this
    simp only [Bool.and_eq_true] at this
    have h1 := this.1.1
    simp only [hs, ht] at h1
    simpa using h1
  · have := H2 i j q o hi hj
    unfold okDraw1 at this
    simp only [Bool.and_eq_true] at this
    have h1 := this.1.2
    simp only [hs] at h1
    have hc : (tmpsOf ops o).contains s = true := by simpa using ht
    simp only [hc, Bool.not_true, Bool.false_or, Bool.or_eq_true, Bool.and_eq_true, Nat.blt_eq] at h1
    exact h1.imp id fun h => ⟨h.1.1, h.1.2, h.2⟩
  · have := H2 i j q o hi hj
    unfold okDraw1 at this
    simp only [Bool.and_eq_true, hu] at this
    simpa using this.2
theorem unord_lt {ms : List Nat} {i j : Nat} (h : i < j) (hu : unord ms i j = false) : ordB ms i j = true := by
  unfold unord at hu
  simp only [Bool.or_eq_false_iff] at hu
  have := hu.1
  have hb : Nat.blt i j = true := by simpa using h
  rw [hb] at this
  simpa using this
theorem unord_comm {ms : List Nat} {i j : Nat} : unord ms i j = unord ms j i := by
  unfold unord; rw [Bool.or_comm]
end Go.Proofs.YtebaiioejagfoaaGreatDoor

/- The evaluator S: regions whose order is drawn are sound. -/
namespace Go.Proofs.YtebaiioejagfoaaGreatDoor
open Go
set_option linter.unusedVariables false
set_option linter.unusedSimpArgs false
variable {P : Program} {T : Tab}
def ChkOK (c : Cx) (ops : List Oper) (ms : List Nat) (j : Nat) (env : Env) (os : List SO) (o : Oper) : Prop :=
  (∀ t p, o.op = .load t p → anyU c.T ms j 0 ops = true → isBox (ev env p) = true) ∧
  (∀ f args ts, o.op = .call { callee := .value f, args := args, argTypes := ts } → loadsU c.T ms j 0 ops ≠ [] →
    keepOk c os (ev env f) ((args.toList.zip ts.toList).map (argO c.T env)) (((loadsU c.T ms j 0 ops).filter fun p => Nat.blt p.1 j).map fun p => ev env p.2) ((loadsU c.T ms j 0 ops).any fun p => Nat.blt j p.1) = true)
theorem dchk_some {b : Bool} {x : Out} {y : SV × List SO} (h : dchk b x = some y) : b = true ∧ x = some y := by
  cases b
  · cases h
  · exact ⟨rfl, h⟩
theorem chkD_some {c : Cx} {ops : List Oper} {ms : List Nat} {j : Nat} {env : Env} {os : List SO} {o : Oper} {x : Out} {y : SV × List SO} (h : chkD c ops ms j env os o x = some y) :
    x = some y ∧ ChkOK c ops ms j env os o := by
  unfold chkD at h
  split at h
  · rename_i t p ho
    split at h
    · rename_i hu
      obtain ⟨h1, h2⟩ := dchk_some h
      exact ⟨h2, And.intro (fun t' p' e _ => by rw [ho] at e; cases e; exact h1) (fun f args ts e => by rw [ho] at e; cases e)⟩
    · rename_i hu
      exact ⟨h, And.intro (fun t' p' e hu' => by rw [hu] at hu'; cases hu') (fun f args ts e => by rw [ho] at e; cases e)⟩
  · rename_i f args ts ho
    split at h
    · rename_i hl
      exact ⟨h, And.intro (fun t p e => by rw [ho] at e; cases e) (fun f args ts e hne => absurd hl hne)⟩
    · rename_i l hl
      obtain ⟨h1, h2⟩ := dchk_some h
      exact ⟨h2, And.intro (fun t p e => by rw [ho] at e; cases e) (fun f args ts e _ => by rw [ho] at e; cases e; exact h1)⟩
  · rename_i h1 h2
    exact ⟨h, And.intro (fun t p e => absurd e (h1 t p)) (fun f args ts e => absurd e (h2 f args ts))⟩
structure Tr (c : Cx) (nt : Nat) (ops : List Oper) (ms : List Nat) (lo : Nat) (E : Nat → Env) (O : Nat → List SO) (X : Nat → SV) : Prop where
  step : ∀ (j : Nat) (o : Oper), lo ≤ j → ops[j]? = some o → op1 c ops (E j) (O j) o = some (X j, O (j + 1)) ∧ E (j + 1) = put (E j) o.dst (X j) ∧ okDst nt o.dst = true ∧ ChkOK c ops ms j (E j) (O j) o
theorem silent_chk {c : Cx} {ops : List Oper} {ms : List Nat} {j : Nat} {env : Env} {os : List SO} {o : Oper} {x : SV} (h : silent env o = some x) : ChkOK c ops ms j env os o := by
  unfold silent at h
  split at h
  · cases h
  · split at h
    · rename_i ho; exact And.intro (fun t p e => by rw [ho] at e; cases e) (fun f args ts e => by rw [ho] at e; cases e)
    · rename_i ho; exact And.intro (fun t p e => by rw [ho] at e; cases e) (fun f args ts e => by rw [ho] at e; cases e)
    · rename_i ho; exact And.intro (fun t p e => by rw [ho] at e; cases e) (fun f args ts e => by rw [ho] at e; cases e)
    · cases h
theorem tr_of {c : Cx} {nt : Nat} {ops : List Oper} {ms : List Nat} {k : Env → List SO → Out} {out : SV × List SO} : ∀ (rest : List Oper) (j : Nat) (env : Env) (os : List SO), ops.drop j = rest →
    runD c nt ops ms j rest env os k = some out → ∃ E O X, E j = env ∧ O j = os ∧ Tr c nt ops ms j E O X ∧ k (E (j + rest.length)) (O (j + rest.length)) = some out := by
  intro rest
  induction rest with
  | nil =>
    intro j env os hd h
    refine ⟨fun _ => env, fun _ => os, fun _ => .dead, rfl, rfl, ⟨fun i o hi ho => ?_⟩, h⟩
    have hlen : ops.length ≤ j := by
      have := congrArg List.length hd
      simp at this; omega
    have := lt_of_getElem? ho
    omega
  | cons o rest ih =>
    intro j env os hd h
    have hoi : ops[j]? = some o := by
      have := congrArg List.head? hd
      simpa [List.head?_drop] using this
    have hd' : ops.drop (j + 1) = rest := by rw [← List.drop_drop, hd]; rfl
    have main : ∀ (x : SV) (os1 : List SO), okDst nt o.dst = true → op1 c ops env os o = some (x, os1) → ChkOK c ops ms j env os o → runD c nt ops ms (j + 1) rest (put env o.dst x) os1 k = some out →
        ∃ E O X, E j = env ∧ O j = os ∧ Tr c nt ops ms j E O X ∧ k (E (j + (o :: rest).length)) (O (j + (o :: rest).length)) = some out := by
      intro x os1 hdst hop hchk hk
      obtain ⟨E, O, X, e1, e2, ⟨tr⟩, hf⟩ := ih (j + 1) _ _ hd' hk
      refine ⟨fun i => if i = j then env else E i, fun i => if i = j then os else O i, fun i => if i = j then x else X i, by simp, by simp, ⟨fun i p hi hp => ?_⟩, ?_⟩
      · by_cases e : i = j
        · subst e
          rw [hoi] at hp; obtain rfl := Option.some.inj hp
          simp only [if_true, if_neg (show ¬ i + 1 = i by omega), e1, e2]
          exact ⟨hop, trivial, hdst, hchk⟩
        · simp only [if_neg e, if_neg (show ¬ i + 1 = j by omega)]
          exact tr i p (by omega) hp
      · have e3 : j + (o :: rest).length = j + 1 + rest.length := by simp; omega
        rw [e3]
        simp only [if_neg (show ¬ j + 1 + rest.length = j by omega)]
        exact hf
    simp only [runD] at h
    split at h
    · cases h
    · rename_i hdst
      split at h
      · rename_i x hx
        obtain ⟨hg, hop⟩ := silent_op (c := c) (os := os) hx
        exact main x os hdst (by unfold op1; rw [hg]; exact hop) (silent_chk hx) h
      · obtain ⟨h1, hchk⟩ := chkD_some h
        obtain ⟨r, hr, hk⟩ := Option.bind_eq_some_iff.1 h1
        obtain ⟨x, os1⟩ := r
        exact main x os1 hdst hr hchk hk
theorem op1_ok {c : Cx} (hO : OpsOK P c) {ops : Array Oper} {fr : Fr} {os os1 : List SO} {g : Nat → Gh} {w : World} {env : Env} {a : Act} {o : Oper} {x : SV} {j : Nat} {K : Act → World → Prop} {Q : Exit → Act → World → Prop}
    (m : Mem fr os g w) (hs : Slots w (Bk fr os g w) g env a.tmps) (hj : ops[j]? = some o) (h : op1 c ops.toList env os o = some (x, os1))
    (hK : ∀ v w', Res fr os g w os1 x v w' → K (a.put o.dst v) w') : os.length ≤ os1.length ∧ wpOp P ops Q j K a w := by
  unfold wpOp
  simp only [hj]
  unfold op1 at h
  split at h
  · rename_i hg
    have hw : Region.wanted o (yielded ops a.tmps) = true := by simp [Region.wanted, hg]
    rw [if_pos hw]
    obtain ⟨hok, hle⟩ := hO fr os os1 g w env a o x m hs h
    exact ⟨hle, .inl (hok _ _ hK)⟩
  · rename_i j' want hg
    unfold gd at h
    split at h
    · rename_i b hb
      have hy := (yielded_of (ops := ops) hs j' (by rw [hb]; simp)).1 b hb
      split at h
      · rename_i e
        have hw : Region.wanted o (yielded ops a.tmps) = true := by simp [Region.wanted, hg, hy, e]
        rw [if_pos hw]
        obtain ⟨hok, hle⟩ := hO fr os os1 g w env a o x m hs h
        exact ⟨hle, .inl (hok _ _ hK)⟩
      · rename_i e
        obtain ⟨rfl, rfl⟩ := Prod.mk.inj (Option.some.inj h)
        have hw : ¬ Region.wanted o (yielded ops a.tmps) = true := by simp [Region.wanted, hg, hy, e]
        rw [if_neg hw]
        exact ⟨Nat.le_refl _, hK _ _ (Res.same m .undef)⟩
    · simp at h
    · rename_i hnb hnd
      obtain ⟨rfl, rfl⟩ := Prod.mk.inj (Option.some.inj h)
      have hy := (yielded_of (ops := ops) hs j' (fun e => hnd e)).2 (fun b e => hnb b e)
      have hw : ¬ Region.wanted o (yielded ops a.tmps) = true := by simp [Region.wanted, hg, hy]
      rw [if_neg hw]
      exact ⟨Nat.le_refl _, hK _ _ (Res.same m .undef)⟩
theorem op1_elim {c : Cx} {ops : List Oper} {env : Env} {os os1 : List SO} {o : Oper} {x : SV} {M : Prop} (h : op1 c ops env os o = some (x, os1)) (hA : opS c env os o = some (x, os1) → M) (hB : os1 = os → M) : M := by
  unfold op1 at h
  split at h
  · exact hA h
  · unfold gd at h
    split at h
    · split at h
      · exact hA h
      · cases h; exact hB rfl
    · cases h
    · cases h; exact hB rfl
theorem op1_same {c : Cx} {ops : List Oper} {env : Env} {os os1 os2 : List SO} {o : Oper} {x : SV} (h : op1 c ops env os o = some (x, os1)) (hA : opS c env os o = some (x, os1) → os1 = os ∧ opS c env os2 o = some (x, os2)) :
    os1 = os ∧ op1 c ops env os2 o = some (x, os2) := by
  unfold op1 at h ⊢
  split at h
  · rename_i hg; exact hA h
  · rename_i j want hg
    unfold gd at h ⊢
    split at h
    · split at h
      · rename_i e; obtain ⟨h1, h2⟩ := hA h; exact ⟨h1, by rw [if_pos e]; exact h2⟩
      · rename_i e; cases h; exact ⟨rfl, by rw [if_neg e]⟩
    · cases h
    · cases h; exact ⟨rfl, rfl⟩
theorem loadsU_mem {ms : List Nat} {j : Nat} : ∀ {l : List Oper} {k : Nat} {i : Nat} {o : Oper} {t : Nat} {p : Operand}, l[i]? = some o → o.op = .load t p → unord ms (k + i) j = true → (k + i, p) ∈ loadsU T ms j k l
  | [], _, i, _, _, _, h, _, _ => by simp at h
  | x :: xs, k, i, o, t, p, h, ho, hu => by
    cases i with
    | zero =>
      simp at h; subst h
      simp only [loadsU, ho]
      rw [show k + 0 = k from rfl] at hu ⊢
      rw [if_pos hu]; simp
    | succ i =>
      have := loadsU_mem (l := xs) (k := k + 1) (i := i) (by simpa using h) ho (by rw [show k + 1 + i = k + (i + 1) by omega]; exact hu)
      rw [show k + 1 + i = k + (i + 1) by omega] at this
      simp only [loadsU]
      split
      · split
        · simp [this]
        · exact this
      · exact this
theorem anyU_false {ms : List Nat} {j : Nat} : ∀ {l : List Oper} {k : Nat}, anyU T ms j k l = false → ∀ {i : Nat} {o : Oper}, l[i]? = some o → (cls T o.op).isE = true → unord ms (k + i) j = false
  | [], _, _, i, _, h, _ => by simp at h
  | x :: xs, k, h, i, o, hi, hE => by
    simp only [anyU, Bool.or_eq_false_iff] at h
    cases i with
    | zero =>
      simp at hi; subst hi
      have := h.1
      rw [hE] at this; simpa using this
    | succ i =>
      have := anyU_false h.2 (i := i) (by simpa using hi) hE
      rw [show k + (i + 1) = k + 1 + i by omega]; exact this
end Go.Proofs.YtebaiioejagfoaaGreatDoor
