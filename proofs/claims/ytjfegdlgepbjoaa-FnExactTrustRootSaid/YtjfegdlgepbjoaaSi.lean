/- The evaluator S: what is handed on is read from then on; stores; slice literals. -/
import Derived.Test.YtjfegdlgepbjoaaSh
namespace Go.Proofs.Ytjfegdlgepbjoaa
open Go
set_option linter.unusedVariables false
set_option linter.unusedSimpArgs false
variable {P : Program} {T : Tab}

/-- An array of the frame's own that is read from now on. -/
theorem freeze_chg {fr : Fr} {os : List SO} {g : Nat → Gh} {w : World} (hm : Mem fr os g w) {j sz : Nat} {l : List SV} (hj : os[j]? = some (.arr false sz l)) :
    Chg fr os g w (os.set j (.frz sz l)) g w (fun _ => False) where
  out := SameOut.refl _
  size := Nat.le_refl _
  same _ _ _ := rfl
  only _ h := h.elim
  ext _ _ := rfl
  live c hc := by
    obtain ⟨k, x, hk, hl, hx⟩ := hc
    rw [List.getElem?_set] at hk
    split at hk
    · rename_i e
      subst e
      split at hk
      · obtain rfl := Option.some.inj hk; simp [SO.isLive] at hl
      · simp at hk
    · have : live os g c := ⟨k, x, hk, hl, hx⟩
      exact ⟨.inl this, (hm.own c this).1⟩

theorem freeze_mem {fr : Fr} {os : List SO} {g : Nat → Gh} {w : World} (hm : Mem fr os g w) {j sz : Nat} {l : List SV} (hj : os[j]? = some (.arr false sz l)) :
    Mem fr (os.set j (.frz sz l)) g w := by
  have hjl := lt_of_getElem? hj
  have hg := (freeze_chg hm hj).grow
  have back : ∀ {k : Nat} {x : SO}, (os.set j (.frz sz l))[k]? = some x → (k = j ∧ x = .frz sz l) ∨ (k ≠ j ∧ os[k]? = some x) := by
    intro k x hk
    rw [List.getElem?_set] at hk
    split at hk
    · rename_i e; subst e; first | exact .inl ⟨rfl, (Option.some.inj hk).symm⟩ | (rw [if_pos hjl] at hk; exact .inl ⟨rfl, (Option.some.inj hk).symm⟩)
    · rename_i e; exact .inr ⟨fun h => e h.symm, hk⟩
  refine (freeze_chg hm hj).mem hm ?_ ?_ ?_ ?_
  · intro k x hk
    rcases back hk with ⟨rfl, rfl⟩ | ⟨_, hk⟩
    · refine .inr ?_
      rcases hm.objs _ _ hj with ⟨rfl, hn⟩ | ⟨b, cap, vs, e1, e2, e3, e4, e5, e6⟩
      · exact .inl ⟨rfl, hn⟩
      · have hlive : live os g b := ⟨k, _, hj, rfl, by rw [e1]; rfl⟩
        refine .inr ⟨b, cap, vs, e1, e2, ⟨(hm.own b hlive).1, fun h => ?_, ?_⟩, e3.mono hg.sub hg.same (fun j hj => absurd rfl hj), e4, e5⟩
        · have := hm.mine k sz l b hj (by rw [e1]; rfl); omega
        · rintro ⟨i, o, hi, hl, hb⟩
          rcases back hi with ⟨rfl, rfl⟩ | ⟨hne, hi⟩
          · simp [SO.isLive] at hl
          · exact hne (hm.inj i k o _ b hi hj hl rfl hb (by rw [e1]; rfl))
    · exact .inl ⟨hk, fun _ _ _ h => h⟩
  · intro k hk; exact hm.fresh k (by simpa using hk)
  · intro i k oi ok c hi hk li lk bi bk
    rcases back hi with ⟨rfl, rfl⟩ | ⟨_, hi⟩
    · simp [SO.isLive] at li
    · rcases back hk with ⟨rfl, rfl⟩ | ⟨_, hk⟩
      · simp [SO.isLive] at lk
      · exact hm.inj i k oi ok c hi hk li lk bi bk
  · intro k sz' l' c hk hc
    rcases back hk with ⟨rfl, e⟩ | ⟨_, hk⟩
    · cases e
    · exact hm.mine k sz' l' c hk hc

theorem frz_rep {fr : Fr} {os : List SO} {g : Nat → Gh} {w : World} (hm : Mem fr os g w) {j sz : Nat} {l : List SV} {v : Value} (hj : os[j]? = some (.frz sz l))
    (h : RepV w (Bk fr os g w) g (.osl j) v) : ∀ g', RepV w (Bk fr os g w) g' (.sl sz l) v := by
  intro g'
  rcases hm.objs _ _ hj with ⟨rfl, hn⟩ | ⟨b, cap, vs, e1, e2, e3, e4, e5, e6⟩
  · cases h with
    | osl0 => exact .sl0
    | osl hg => rw [hn] at hg; cases hg
  · cases h with
    | osl0 hg => rw [e1] at hg; cases hg
    | osl hg => rw [e1] at hg; cases hg; exact .sl e4.1 e4.2 e5 e6 e3 e2

theorem pureCell_rep {fr : Fr} {os os1 : List SO} {g : Nat → Gh} {w : World} (hm : Mem fr os g w) {x y : SV} {v : Value} (hx : RepV w (Bk fr os g w) g x v)
    (h : pureCell os x = some (y, os1)) : Mem fr os1 g w ∧ Grow fr os g w os1 g w ∧ RepV w (Bk fr os1 g w) G0 y v ∧ v.oneCell' = true := by
  unfold pureCell at h
  split at h
  · obtain ⟨rfl, rfl⟩ := Prod.mk.inj (Option.some.inj h)
    cases hx with
    | v hs => exact ⟨hm, Grow.refl _ _ _ _, .v hs, scalar_one hs⟩
  · obtain ⟨rfl, rfl⟩ := Prod.mk.inj (Option.some.inj h)
    cases hx with
    | sl0 => exact ⟨hm, Grow.refl _ _ _ _, .sl0, rfl⟩
    | sl h1 h2 h3 h4 h5 h6 => exact ⟨hm, Grow.refl _ _ _ _, .sl h1 h2 h3 h4 h5 h6, rfl⟩
  · rename_i j
    split at h
    · rename_i sz l hj
      obtain ⟨rfl, rfl⟩ := Prod.mk.inj (Option.some.inj h)
      have hm' := freeze_mem hm hj
      have hg := (freeze_chg hm hj).grow
      have hj' : (os.set j (.frz sz l))[j]? = some (.frz sz l) := by rw [List.getElem?_set, if_pos rfl, if_pos (lt_of_getElem? hj)]
      exact ⟨hm', hg, frz_rep hm' hj' (hx.grow hg) _, okCell_one hx rfl⟩
    · rename_i sz l hj
      obtain ⟨rfl, rfl⟩ := Prod.mk.inj (Option.some.inj h)
      exact ⟨hm, Grow.refl _ _ _ _, frz_rep hm hj hx _, okCell_one hx rfl⟩
    · simp at h
  · simp at h

theorem pureCells_rep {fr : Fr} {w : World} {g : Nat → Gh} : ∀ (xs : List SV) {os os1 : List SO} {ys : List SV} {vs : List Value}, Mem fr os g w → RepL w (Bk fr os g w) g xs vs →
    pureCells xs os = some (ys, os1) → Mem fr os1 g w ∧ Grow fr os g w os1 g w ∧ RepL w (Bk fr os1 g w) G0 ys vs ∧ ∀ v : Value, v ∈ vs → v.oneCell' = true := by
  intro xs
  induction xs with
  | nil =>
    intro os os1 ys vs hm hl h
    simp only [pureCells] at h
    obtain ⟨rfl, rfl⟩ := Prod.mk.inj (Option.some.inj h)
    have := hl.1
    cases vs with
    | nil => exact ⟨hm, Grow.refl _ _ _ _, RepL.nil, fun v hv => by simp at hv⟩
    | cons => simp at this
  | cons x xs ih =>
    intro os os1 ys vs hm hl h
    obtain ⟨v, vs', rfl, hv, hl'⟩ := hl.uncons
    simp only [pureCells] at h
    split at h
    · rename_i y os2 hy
      split at h
      · rename_i ys' os3 hys
        obtain ⟨rfl, rfl⟩ := Prod.mk.inj (Option.some.inj h)
        obtain ⟨m1, g1, r1, o1⟩ := pureCell_rep hm hv hy
        obtain ⟨m2, g2, r2, o2⟩ := ih m1 (hl'.mono g1.sub g1.same g1.ext) hys
        refine ⟨m2, g1.trans g2, RepL.cons (r1.mono g2.sub g2.same G0 (fun _ h => absurd rfl h)) r2, fun u hu => ?_⟩
        rcases List.mem_cons.1 hu with rfl | hu
        · exact o1
        · exact o2 u hu
      · simp at h
    · simp at h

theorem one_cells {v : Value} (h : v.oneCell' = true) : v.cells = #[v] := by
  cases v <;> first | rfl | simp [Value.oneCell'] at h

theorem pureS_rep {fr : Fr} {os os1 : List SO} {g : Nat → Gh} {w : World} (hm : Mem fr os g w) {x y : SV} {v : Value} (hx : RepV w (Bk fr os g w) g x v)
    (h : pureS os x = some (y, os1)) : Mem fr os1 g w ∧ Grow fr os g w os1 g w ∧ RepV w (Bk fr os1 g w) G0 y v ∧ ElOK y.cells.length v := by
  unfold pureS at h
  split at h
  · rename_i l
    split at h
    · rename_i ys os2 hys
      obtain ⟨rfl, rfl⟩ := Prod.mk.inj (Option.some.inj h)
      cases hx with
      | ag h1 h2 h3 =>
        obtain ⟨m, g1, r, o⟩ := pureCells_rep l hm ⟨h1, h2⟩ hys
        exact ⟨m, g1, .ag r.1 r.2 o, by simpa [SV.cells, Value.cells] using r.1.symm, by simpa [Value.cells] using o⟩
    · simp at h
  · obtain ⟨m, g1, r, o⟩ := pureCell_rep hm hx h
    have hd : y ≠ .dead := by
     intro e
     subst e
     unfold pureCell at h
     split at h <;> first
      | (obtain ⟨e, _⟩ := Prod.mk.inj (Option.some.inj h); cases e; done)
      | (split at h <;> first | (obtain ⟨e, _⟩ := Prod.mk.inj (Option.some.inj h); cases e; done) | (simp at h; done))
      | (simp at h; done)
    exact ⟨m, g1, r, (r.size hd).symm, fun c hc => by rw [one_cells o] at hc; simp at hc; subst hc; exact o⟩

theorem pureL_rep {fr : Fr} {w : World} {g : Nat → Gh} : ∀ (xs : List SV) {os os1 : List SO} {ys : List SV} {vs : List Value}, Mem fr os g w → RepL w (Bk fr os g w) g xs vs →
    pureL xs os = some (ys, os1) → Mem fr os1 g w ∧ Grow fr os g w os1 g w ∧ RepL w (Bk fr os1 g w) G0 ys vs ∧
      ∀ (i : Nat) (y : SV) (v : Value), ys[i]? = some y → vs[i]? = some v → ElOK y.cells.length v := by
  intro xs
  induction xs with
  | nil =>
    intro os os1 ys vs hm hl h
    simp only [pureL] at h
    obtain ⟨rfl, rfl⟩ := Prod.mk.inj (Option.some.inj h)
    have := hl.1
    cases vs with
    | nil => exact ⟨hm, Grow.refl _ _ _ _, RepL.nil, fun i y v hv => by simp at hv⟩
    | cons => simp at this
  | cons x xs ih =>
    intro os os1 ys vs hm hl h
    obtain ⟨v, vs', rfl, hv, hl'⟩ := hl.uncons
    simp only [pureL] at h
    split at h
    · rename_i y os2 hy
      split at h
      · rename_i ys' os3 hys
        obtain ⟨rfl, rfl⟩ := Prod.mk.inj (Option.some.inj h)
        obtain ⟨m1, g1, r1, o1⟩ := pureS_rep hm hv hy
        obtain ⟨m2, g2, r2, o2⟩ := ih m1 (hl'.mono g1.sub g1.same g1.ext) hys
        refine ⟨m2, g1.trans g2, RepL.cons (r1.mono g2.sub g2.same G0 (fun _ h => absurd rfl h)) r2, fun i z u hz hu => ?_⟩
        cases i with
        | zero => simp at hz hu; subst hz; subst hu; exact o1
        | succ i => exact o2 i z u (by simpa using hz) (by simpa using hu)
      · simp at h
    · simp at h

/-! ### stores -/
theorem run_storeVar {t : Nat} {i : TI} (hi : TiOk P t i) {w : World} {b n o : Nat} {v : Value} (h : Room w b n) (hs : v.cells.size = i.size) (ho : o + v.cells.size ≤ n)
    (h1 : ∀ u : Value, u ∈ v.cells.toList → u.oneCell' = true) : (Instr.storeAt t (.pointer (some ⟨b, o, none⟩)) v).run P w = .ok () (w.setCells b o v.cells.toList) := by
  obtain ⟨info, z, d, i1, i2, i3, i4, i5, i6, i7, i8, i9⟩ := hi.ok
  have := run_stores (P := P) (vs := v.cells.toList) h (by simpa using ho) h1
  simp [Instr.storeAt, Instr.sureAddr, storeVar, run_size i1, i2, hs, this]

theorem flatV_set {vs : List Value} {sz n off : Nat} {u u' : Value} {cs : List Value} (h : ∀ v : Value, v ∈ vs → ElOK sz v) (hu : vs[n]? = some u)
    (hc : u'.cells.toList = u.cells.toList.take off ++ cs ++ u.cells.toList.drop (off + cs.length)) (ho : off + cs.length ≤ sz) :
    flatV (vs.set n u') = (flatV vs).take (n * sz + off) ++ cs ++ (flatV vs).drop (n * sz + off + cs.length) := by
  have hn := lt_of_getElem? hu
  have hus : u.cells.toList.length = sz := by simpa using (h u (List.mem_of_getElem? hu)).1
  have e1 : vs = vs.take n ++ u :: vs.drop (n + 1) := by
    have : u = vs[n] := by rw [List.getElem?_eq_getElem hn] at hu; exact (Option.some.inj hu).symm
    rw [this, ← List.drop_eq_getElem_cons hn, List.take_append_drop]
  have hA : (flatV (vs.take n)).length = n * sz := by
    rw [flatV_length (fun v hv => h v (List.mem_of_mem_take hv)), List.length_take, Nat.min_eq_left (by omega)]
  have e2 : flatV vs = flatV (vs.take n) ++ (u.cells.toList ++ flatV (vs.drop (n + 1))) := by
    conv => lhs; rw [e1]
    simp [flatV]
  have e3 : flatV (vs.set n u') = flatV (vs.take n) ++ (u'.cells.toList ++ flatV (vs.drop (n + 1))) := by
    rw [List.set_eq_take_append_cons_drop, if_pos hn]
    simp [flatV]
  rw [e3, e2, hc]
  generalize flatV (vs.take n) = A at *
  generalize flatV (vs.drop (n + 1)) = D at *
  generalize u.cells.toList = U at *
  clear e1 e2 e3 hc hu h
  rw [List.take_append, List.drop_append, hA, List.take_of_length_le (show A.length ≤ n * sz + off by omega), show n * sz + off - n * sz = off by omega,
    List.take_append_of_le_length (show off ≤ U.length by omega), List.drop_eq_nil_of_le (show A.length ≤ n * sz + off + cs.length by omega),
    show n * sz + off + cs.length - n * sz = off + cs.length by omega, List.drop_append_of_le_length (show off + cs.length ≤ U.length by omega)]
  simp [List.append_assoc]

theorem setElem_rep {w : World} {B : Nat → Prop} {y : SV} {u : Value} {ys : List SV} {cs : List Value} {off : Nat} (hy : RepV w B G0 y u) (hd : y ≠ .dead) (hr : RepL w B G0 ys cs)
    (ho : ∀ c : Value, c ∈ cs → c.oneCell' = true) (hl : off + cs.length ≤ y.cells.length) (hp : 0 < cs.length) :
    ∃ u', RepV w B G0 (setElem y off ys) u' ∧ u'.cells.toList = u.cells.toList.take off ++ cs ++ u.cells.toList.drop (off + cs.length) := by
  by_cases ha : ∃ ly, y = .ag ly
  · obtain ⟨ly, rfl⟩ := ha
    cases hy with
    | ag a1 a2 a3 =>
      rename_i uv
      have hrl : RepL w B G0 ly uv := ⟨a1, a2⟩
      refine ⟨.agg (uv.take off ++ cs ++ uv.drop (off + cs.length)).toArray, ?_, by simp [Value.cells]⟩
      have h1 : setElem (.ag ly) off ys = .ag (splice ly off ys) := rfl
      rw [h1]
      have h2 : RepL w B G0 (splice ly off ys) (uv.take off ++ cs ++ uv.drop (off + cs.length)) := by
        simp only [splice, hr.1]
        exact ((hrl.take off).append hr).append (hrl.drop _)
      refine .ag h2.1 h2.2 fun z hz => ?_
      simp only [List.mem_append] at hz
      rcases hz with (hz | hz) | hz
      · exact a3 z (List.mem_of_mem_take hz)
      · exact ho z hz
      · exact a3 z (List.mem_of_mem_drop hz)
  · have hyc : y.cells = [y] := by
      cases y <;> first | rfl | exact absurd ⟨_, rfl⟩ ha
    have hs := hy.size hd
    rw [hyc] at hs hl
    simp at hs hl
    obtain rfl : off = 0 := by omega
    obtain ⟨c, rfl⟩ : ∃ c, cs = [c] := by
      match cs, hp, hl with
      | [c], _, _ => exact ⟨c, rfl⟩
    obtain ⟨z, rfl⟩ : ∃ z, ys = [z] := by
      have := hr.1
      match ys, this with
      | [z], _ => exact ⟨z, rfl⟩
    have e : setElem y 0 [z] = z := by
      cases y <;> first | rfl | exact absurd ⟨_, rfl⟩ ha
    rw [e]
    refine ⟨c, hr.2 0 z c rfl rfl, ?_⟩
    rw [one_cells (ho c (by simp))]
    have : u.cells.toList.length = 1 := by simp [← hs]
    rw [List.drop_eq_nil_of_le (by simp; omega)]
    rfl

theorem store_rep (hT : TabOk P T) {fr : Fr} {os os1 : List SO} {g : Nat → Gh} {w : World} (hm : Mem fr os g w) {t : Nat} {p x : SV} {pv xv : Value}
    (hp : RepV w (Bk fr os g w) g p pv) (hx : RepV w (Bk fr os g w) g x xv) (h : storeS T os t p x = some os1) :
    ∃ w', (Instr.storeAt t pv xv).run P w = .ok () w' ∧ Mem fr os1 g w' ∧ Grow fr os g w os1 g w' := by
  unfold storeS at h
  split at h
  · rename_i i hi
    have hti := hT.ti t i hi
    split at h
    · rename_i hsz
      split at h
      · rename_i j off
        split at h
        · rename_i l hj
          split at h
          · rename_i hc
            obtain rfl := Option.some.inj h
            have hd : x ≠ .dead := by intro e; subst e; have := hc.2; simp [SV.cells, okCell] at this
            have hxl := hx.cells hd
            have hxs : xv.cells.size = i.size := by rw [← hsz, hx.size hd]
            have hone : ∀ u : Value, u ∈ xv.cells.toList → u.oneCell' = true := fun u hu => by
              obtain ⟨k, hk, rfl⟩ := List.mem_iff_getElem.1 hu
              have hk' : k < x.cells.length := by rw [hxl.1]; exact hk
              exact okCell_one (hxl.2 k x.cells[k] _ (by simp [hk']) (by simp [hk])) (List.all_eq_true.1 hc.2 _ (List.getElem_mem hk'))
            obtain ⟨b, vs, e1, e2, e3, e4, e5⟩ := hm.objs _ _ hj
            cases hp with
            | ptr hp =>
              rw [e1] at hp
              cases hp
              have hle : off + xv.cells.size ≤ vs.length := by rw [hxs, ← e2.1]; exact hc.1
              have hb : (g j).block? = some b := by rw [e1]; rfl
              have hs := size_setCells b xv.cells.toList off w
              have hw := fun c (hc : c ≠ b) => heap_setCells_ne b c (fun e => hc e.symm) xv.cells.toList off w
              have hg := (set_chg hm (out_setCells _ _ _ _) hj rfl hb (o' := .box (splice l off x.cells)) rfl hs hw).grow
              refine ⟨_, run_storeVar hti e5 hxs hle hone, set_mem hm (out_setCells _ _ _ _) hj rfl hb rfl (fun sz l e => by cases e) hs hw ?_, hg⟩
              refine ⟨b, vs.take off ++ xv.cells.toList ++ vs.drop (off + xv.cells.toList.length), e1, ?_, ?_, ?_, ?_⟩
              · have key : RepL w (Bk fr os g w) g (splice l off x.cells) (vs.take off ++ xv.cells.toList ++ vs.drop (off + xv.cells.toList.length)) := by
                  have hl := hxl.1
                  simp only [splice]
                  rw [hl]
                  exact ((e2.take off).append hxl).append (e2.drop _)
                exact key.mono hg.sub hg.same hg.ext
              · intro u hu
                simp only [List.mem_append] at hu
                rcases hu with (hu | hu) | hu
                · exact e3 u (List.mem_of_mem_take hu)
                · exact hone u hu
                · exact e3 u (List.mem_of_mem_drop hu)
              · exact cells_setCells e5 e4 (by omega) (by simpa using hle)
              · have : (vs.take off ++ xv.cells.toList ++ vs.drop (off + xv.cells.toList.length)).length = vs.length := by simp; omega
                rw [this]; exact room_setCells e5 _ _
          · simp at h
        · simp at h
      · rename_i j n off
        split at h
        · rename_i ys os2 hys
          split at h
          · rename_i lt sz l hj
            split at h
            · rename_i y hy
              split at h
              · rename_i yc hyc
                obtain ⟨hyd, rfl⟩ := dcells_eq hyc
                split at h
                · rename_i hle
                  obtain rfl := Option.some.inj h
                  have hd : x ≠ .dead := by intro e; subst e; simp [SV.cells, pureCells, pureCell] at hys
                  have hxl := hx.cells hd
                  have hxs : xv.cells.size = i.size := by rw [← hsz, hx.size hd]
                  obtain ⟨m1, g1, r1, o1⟩ := pureCells_rep _ hm hxl hys
                  rcases m1.objs _ _ hj with ⟨rfl, hn⟩ | ⟨b, cap, vs, e1, e2, e3, e4, e5, e6⟩
                  · simp at hy
                  · cases hp with
                    | ap hp =>
                      rw [e1] at hp
                      cases hp
                      obtain ⟨u, hu, hyu⟩ := e3.get hy
                      have hn := lt_of_getElem? hu
                      have husz := (e4 u (List.mem_of_getElem? hu)).1
                      have hu1 := (e4 u (List.mem_of_getElem? hu)).2
                      have hxlen : xv.cells.toList.length = i.size := by simpa using hxs
                      have hys' : y.cells.length = sz := by rw [hyu.size hyd]; exact husz
                      obtain ⟨u', q1, q2⟩ := setElem_rep hyu hyd r1 o1 (by rw [hxlen]; exact hle.1) (by rw [hxlen]; exact hle.2)
                      have q3 : off + xv.cells.toList.length ≤ sz := by rw [hxlen, ← hys']; exact hle.1
                      have hlen := flatV_length e4
                      have hmul : (n + 1) * sz ≤ vs.length * sz := Nat.mul_le_mul_right _ hn
                      have hmul2 : vs.length * sz ≤ cap * sz := Nat.mul_le_mul_right _ (by rw [← e3.1]; exact e2)
                      rw [Nat.succ_mul] at hmul
                      have hb : (g j).block? = some b := by rw [e1]; rfl
                      have hs := size_setCells b xv.cells.toList (n * sz + off) w
                      have hw := fun c (hc : c ≠ b) => heap_setCells_ne b c (fun e => hc e.symm) xv.cells.toList (n * sz + off) w
                      have hg := (set_chg m1 (out_setCells _ _ _ _) hj rfl hb (o' := .arr lt sz (l.set n (setElem y off ys))) rfl hs hw).grow
                      have hu'sz : u'.cells.size = sz := by
                        have : u'.cells.toList.length = u.cells.toList.length := by
                          rw [q2]
                          have : u.cells.toList.length = sz := by simpa using husz
                          simp; omega
                        simp at this; omega
                      refine ⟨_, run_storeVar hti e6 hxs (by rw [show xv.cells.size = xv.cells.toList.length by simp]; omega) o1, set_mem m1 (out_setCells _ _ _ _) hj rfl hb rfl (fun sz' l' e => ?_) hs hw ?_, g1.trans hg⟩
                      · cases e; exact ⟨_, _, rfl⟩
                      · refine .inr ⟨b, cap, vs.set n u', by simpa using e1, by simpa using e2, ?_, ?_, ?_, room_setCells e6 _ _⟩
                        · refine ⟨by simp [e3.1], fun k z c hz hc => ?_⟩
                          rw [List.getElem?_set] at hz hc
                          split at hz
                          · rename_i e
                            subst e
                            have h1 : n < l.length := lt_of_getElem? hy
                            first
                              | (rw [if_pos h1] at hz; rw [if_pos rfl, if_pos hn] at hc; obtain rfl := Option.some.inj hz; obtain rfl := Option.some.inj hc; exact q1.mono hg.sub hg.same G0 (fun _ h => absurd rfl h))
                              | (rw [if_pos rfl] at hc; obtain rfl := Option.some.inj hz; obtain rfl := Option.some.inj hc; exact q1.mono hg.sub hg.same G0 (fun _ h => absurd rfl h))
                          · rename_i e
                            rw [if_neg e] at hc
                            exact (e3.2 k z c hz hc).mono hg.sub hg.same G0 (fun _ h => absurd rfl h)
                        · intro v hv
                          rcases List.mem_or_eq_of_mem_set hv with hv | rfl
                          · exact e4 v hv
                          · refine ⟨hu'sz, fun c hc => ?_⟩
                            rw [q2] at hc
                            simp only [List.mem_append] at hc
                            rcases hc with (hc | hc) | hc
                            · exact hu1 c (List.mem_of_mem_take hc)
                            · exact o1 c hc
                            · exact hu1 c (List.mem_of_mem_drop hc)
                        · rw [flatV_set e4 hu q2 q3]
                          exact cells_setCells e6 e5 (by omega) (by omega)
                · simp at h
              · simp at h
            · simp at h
          · simp at h
        · simp at h
      · simp at h
    · simp at h
  · simp at h

end Go.Proofs.Ytjfegdlgepbjoaa
