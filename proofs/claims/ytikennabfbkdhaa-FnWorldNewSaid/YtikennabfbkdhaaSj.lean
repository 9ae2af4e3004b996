/- The evaluator S and what it says of functions: Si, Sj. -/
import Derived.Test.YtikennabfbkdhaaSh
/- The evaluator S: what is handed on is read from then on; stores; slice literals. -/
namespace Go.Proofs.Ytikennabfbkdhaa
open Go
set_option linter.unusedVariables false
set_option linter.unusedSimpArgs false
variable {P : Program} {T : Tab}
theorem freeze_chg {fr : Fr} {os : List SO} {g : Nat → Gh} {w : World} (hm : Mem fr os g w) {j sz : Nat} {l : List SV} (hj : os[j]? = some (.arr false sz l)) :
    Chg fr os g w (os.set j (.frz sz l)) g w (fun _ => False) where
  out := SameOut.refl _
  size := Nat.le_refl _
  same _ _ _ := rfl
  only _ h := h.elim
  ext _ _ := rfl
  live c hc := by
    obtain ⟨k, x, hk, hl, hx⟩ := hc
    rw [List.getElem?_set] at hk
    split at hk
    · rename_i e
      subst e
      split at hk
      · obtain rfl := Option.some.inj hk; simp [SO.isLive] at hl
      · simp at hk
    · have : live os g c := ⟨k, x, hk, hl, hx⟩
      exact ⟨.inl this, (hm.own c this).1⟩
theorem freeze_mem {fr : Fr} {os : List SO} {g : Nat → Gh} {w : World} (hm : Mem fr os g w) {j sz : Nat} {l : List SV} (hj : os[j]? = some (.arr false sz l)) :
    Mem fr (os.set j (.frz sz l)) g w := by
  have hjl := lt_of_getElem? hj
  have hg := (freeze_chg hm hj).grow
  have back : ∀ {k : Nat} {x : SO}, (os.set j (.frz sz l))[k]? = some x → (k = j ∧ x = .frz sz l) ∨ (k ≠ j ∧ os[k]? = some x) := by
    intro k x hk
    rw [List.getElem?_set] at hk
    split at hk
    · rename_i e; subst e; first | exact .inl ⟨rfl, (Option.some.inj hk).symm⟩ | (rw [if_pos hjl] at hk; exact .inl ⟨rfl, (Option.some.inj hk).symm⟩)
    · rename_i e; exact .inr ⟨fun h => e h.symm, hk⟩
  refine (freeze_chg hm hj).mem hm ?_ ?_ ?_ ?_
  · intro k x hk
    rcases back hk with ⟨rfl, rfl⟩ | ⟨_, hk⟩
    · refine .inr ?_
      rcases hm.objs _ _ hj with ⟨rfl, hn⟩ | ⟨b, cap, vs, e1, e2, e3, e4, e5, e6⟩
      · exact .inl ⟨rfl, hn⟩
      · have hlive : live os g b := ⟨k, _, hj, rfl, by rw [e1]; rfl⟩
        refine .inr ⟨b, cap, vs, e1, e2, ⟨(hm.own b hlive).1, fun h => ?_, ?_⟩, e3.mono hg.sub hg.same (fun j hj => absurd rfl hj), e4, e5⟩
        · have := hm.mine k sz l b hj (by rw [e1]; rfl); omega
        · rintro ⟨i, o, hi, hl, hb⟩
          rcases back hi with ⟨rfl, rfl⟩ | ⟨hne, hi⟩
          · simp [SO.isLive] at hl
          · exact hne (hm.inj i k o _ b hi hj hl rfl hb (by rw [e1]; rfl))
    · exact .inl ⟨hk, fun _ _ _ h => h⟩
  · intro k hk; exact hm.fresh k (by simpa using hk)
  · intro i k oi ok c hi hk li lk bi bk
    rcases back hi with ⟨rfl, rfl⟩ | ⟨_, hi⟩
    · simp [SO.isLive] at li
    · rcases back hk with ⟨rfl, rfl⟩ | ⟨_, hk⟩
      · simp [SO.isLive] at lk
      · exact hm.inj i k oi ok c hi hk li lk bi bk
  · intro k sz' l' c hk hc
    rcases back hk with ⟨rfl, e⟩ | ⟨_, hk⟩
    · cases e
    · exact hm.mine k sz' l' c hk hc
theorem frz_rep {fr : Fr} {os : List SO} {g : Nat → Gh} {w : World} (hm : Mem fr os g w) {j sz : Nat} {l : List SV} {v : Value} (hj : os[j]? = some (.frz sz l))
    (h : RepV w (Bk fr os g w) g (.osl j) v) : ∀ g', RepV w (Bk fr os g w) g' (.sl sz l) v := by
  intro g'
  rcases hm.objs _ _ hj with ⟨rfl, hn⟩ | ⟨b, cap, vs, e1, e2, e3, e4, e5, e6⟩
  · cases h with
    | osl0 => exact .sl0
    | osln hq9 => exfalso; first | (rw [hn] at hq9; cases hq9) | (rw [e1] at hq9; cases hq9) | (rw [hg] at hq9; cases hq9) | (rw [h1] at hq9; cases hq9) | (simp_all; done)
    | osl hg => rw [hn] at hg; cases hg
  · cases h with
    | osl0 hg => rw [e1] at hg; cases hg
    | osln hq9 => exfalso; first | (rw [hn] at hq9; cases hq9) | (rw [e1] at hq9; cases hq9) | (rw [hg] at hq9; cases hq9) | (rw [h1] at hq9; cases hq9) | (simp_all; done)
    | osl hg => rw [e1] at hg; cases hg; exact .sl e4.1 e4.2 e5 e6 e3 e2
theorem vw_rep {fr : Fr} {os : List SO} {g : Nat → Gh} {w : World} (hm : Mem fr os g w) {j sz lo hi : Nat} {l : List SV} {v : Value} (hj : os[j]? = some (.frz sz l)) (hl : lo ≤ hi) (hh : hi ≤ l.length)
    (h : RepV w (Bk fr os g w) g (.vw j lo hi) v) : ∀ g', RepV w (Bk fr os g w) g' (.sl sz ((l.take hi).drop lo)) v := by
  intro g'
  cases h with
  | vw0 => rw [List.drop_eq_nil_of_le (by simp; omega)]; exact .sl0
  | vw hg a1 a2 a3 =>
    by_cases e : lo = hi
    · subst e
      rw [Nat.sub_self, List.drop_eq_nil_of_le (by simp; omega)]
      exact .sl0
    rcases hm.objs _ _ hj with ⟨rfl, hn⟩ | ⟨b, cap, vs, e1, e2, e3, e4, e5, e6⟩
    · rw [hn] at hg; cases hg
    · rw [e1] at hg; cases hg
      have e7 : hi - lo = ((l.take hi).drop lo).length := by simp; omega
      have h1 := e4.1
      rw [e7]
      refine .sl (vs := (vs.take hi).drop lo) (sz := sz) (by simp [h1]) ?_ ?_ ?_ e3 (by simp; omega)
      · exact (RepL.drop (RepL.take ⟨e4.1, e4.2⟩ hi) lo).2
      · intro v hv; exact e5 v (List.mem_of_mem_take (List.mem_of_mem_drop hv))
      · have := (e6.take (hi * sz)).drop (lo * sz)
        rw [flatV_take e5, flatV_drop (fun v hv => e5 v (List.mem_of_mem_take hv)), Nat.zero_add] at this
        exact this
theorem pureCell_rep {fr : Fr} {os os1 : List SO} {g : Nat → Gh} {w : World} (hm : Mem fr os g w) {x y : SV} {v : Value} (hx : RepV w (Bk fr os g w) g x v)
    (h : pureCell os x = some (y, os1)) : Mem fr os1 g w ∧ Grow fr os g w os1 g w ∧ RepV w (Bk fr os1 g w) G0 y v ∧ v.oneCell' = true := by
  unfold pureCell at h
  split at h
  · obtain ⟨rfl, rfl⟩ := Prod.mk.inj (Option.some.inj h)
    cases hx with
    | v hs => exact ⟨hm, Grow.refl _ _ _ _, .v hs, scalar_one hs⟩
  · obtain ⟨rfl, rfl⟩ := Prod.mk.inj (Option.some.inj h)
    cases hx with
    | sl0 => exact ⟨hm, Grow.refl _ _ _ _, .sl0, rfl⟩
    | sl h1 h2 h3 h4 h5 h6 => exact ⟨hm, Grow.refl _ _ _ _, .sl h1 h2 h3 h4 h5 h6, rfl⟩
  · rename_i j
    split at h
    · rename_i sz l hj
      obtain ⟨rfl, rfl⟩ := Prod.mk.inj (Option.some.inj h)
      have hm' := freeze_mem hm hj
      have hg := (freeze_chg hm hj).grow
      have hj' : (os.set j (.frz sz l))[j]? = some (.frz sz l) := by rw [List.getElem?_set, if_pos rfl, if_pos (lt_of_getElem? hj)]
      exact ⟨hm', hg, frz_rep hm' hj' (hx.grow hg) _, okCell_one hx rfl⟩
    · rename_i sz l hj
      obtain ⟨rfl, rfl⟩ := Prod.mk.inj (Option.some.inj h)
      exact ⟨hm, Grow.refl _ _ _ _, frz_rep hm hj hx _, okCell_one hx rfl⟩
    · simp at h
  · rename_i j lo hi
    have hone : v.oneCell' = true := by cases hx <;> rfl
    split at h
    · rename_i sz l hj
      split at h
      · rename_i hb
        obtain ⟨rfl, rfl⟩ := Prod.mk.inj (Option.some.inj h)
        have hm' := freeze_mem hm hj
        have hg := (freeze_chg hm hj).grow
        have hj' : (os.set j (.frz sz l))[j]? = some (.frz sz l) := by rw [List.getElem?_set, if_pos rfl, if_pos (lt_of_getElem? hj)]
        exact ⟨hm', hg, vw_rep hm' hj' hb.1 hb.2 (hx.grow hg) _, hone⟩
      · simp at h
    · rename_i sz l hj
      split at h
      · rename_i hb
        obtain ⟨rfl, rfl⟩ := Prod.mk.inj (Option.some.inj h)
        exact ⟨hm, Grow.refl _ _ _ _, vw_rep hm hj hb.1 hb.2 hx _, hone⟩
      · simp at h
    · simp at h
  · simp at h
theorem deVw_rep {fr : Fr} {os os1 : List SO} {g : Nat → Gh} {w : World} (hm : Mem fr os g w) {x y : SV} {v : Value} (hx : RepV w (Bk fr os g w) g x v)
    (h : deVw os x = some (y, os1)) : Mem fr os1 g w ∧ Grow fr os g w os1 g w ∧ RepV w (Bk fr os1 g w) g y v := by
  unfold deVw at h
  split at h
  · obtain ⟨m, gr, r, -⟩ := pureCell_rep hm hx h
    exact ⟨m, gr, r.mono (fun _ h => h) (fun _ _ => rfl) g (fun _ h => absurd rfl h)⟩
  · obtain ⟨rfl, rfl⟩ := Prod.mk.inj (Option.some.inj h)
    exact ⟨hm, Grow.refl _ _ _ _, hx⟩
theorem pureCells_rep {fr : Fr} {w : World} {g : Nat → Gh} : ∀ (xs : List SV) {os os1 : List SO} {ys : List SV} {vs : List Value}, Mem fr os g w → RepL w (Bk fr os g w) g xs vs →
    pureCells xs os = some (ys, os1) → Mem fr os1 g w ∧ Grow fr os g w os1 g w ∧ RepL w (Bk fr os1 g w) G0 ys vs ∧ ∀ v : Value, v ∈ vs → v.oneCell' = true := by
  intro xs
  induction xs with
  | nil =>
    intro os os1 ys vs hm hl h
    simp only [pureCells] at h
    obtain ⟨rfl, rfl⟩ := Prod.mk.inj (Option.some.inj h)
    have := hl.1
    cases vs with
    | nil => exact ⟨hm, Grow.refl _ _ _ _, RepL.nil, fun v hv => by simp at hv⟩
    | cons => simp at this
  | cons x xs ih =>
    intro os os1 ys vs hm hl h
    obtain ⟨v, vs', rfl, hv, hl'⟩ := hl.uncons
    simp only [pureCells] at h
    split at h
    · rename_i y os2 hy
      split at h
      · rename_i ys' os3 hys
        obtain ⟨rfl, rfl⟩ := Prod.mk.inj (Option.some.inj h)
        obtain ⟨m1, g1, r1, o1⟩ := pureCell_rep hm hv hy
        obtain ⟨m2, g2, r2, o2⟩ := ih m1 (hl'.mono g1.sub g1.same g1.ext) hys
        refine ⟨m2, g1.trans g2, RepL.cons (r1.mono g2.sub g2.same G0 (fun _ h => absurd rfl h)) r2, fun u hu => ?_⟩
        rcases List.mem_cons.1 hu with rfl | hu
        · exact o1
        · exact o2 u hu
      · simp at h
    · simp at h
theorem one_cells {v : Value} (h : v.oneCell' = true) : v.cells = #[v] := by
  cases v <;> first | rfl | simp [Value.oneCell'] at h
theorem pureS_rep {fr : Fr} {os os1 : List SO} {g : Nat → Gh} {w : World} (hm : Mem fr os g w) {x y : SV} {v : Value} (hx : RepV w (Bk fr os g w) g x v)
    (h : pureS os x = some (y, os1)) : Mem fr os1 g w ∧ Grow fr os g w os1 g w ∧ RepV w (Bk fr os1 g w) G0 y v ∧ ElOK y.cells.length v := by
  unfold pureS at h
  split at h
  · rename_i l
    split at h
    · rename_i ys os2 hys
      obtain ⟨rfl, rfl⟩ := Prod.mk.inj (Option.some.inj h)
      cases hx with
      | ag h1 h2 h3 =>
        obtain ⟨m, g1, r, o⟩ := pureCells_rep l hm ⟨h1, h2⟩ hys
        exact ⟨m, g1, .ag r.1 r.2 o, by simpa [SV.cells, Value.cells] using r.1.symm, by simpa [Value.cells] using o⟩
    · simp at h
  · obtain ⟨m, g1, r, o⟩ := pureCell_rep hm hx h
    have hd : y ≠ .dead := by
     intro e
     subst e
     unfold pureCell at h
     split at h <;> first
      | (obtain ⟨e, _⟩ := Prod.mk.inj (Option.some.inj h); cases e; done)
      | (split at h <;> first | (obtain ⟨e, _⟩ := Prod.mk.inj (Option.some.inj h); cases e; done) | (split at h <;> first | (obtain ⟨e, _⟩ := Prod.mk.inj (Option.some.inj h); cases e; done) | (simp at h; done)) | (simp at h; done))
      | (simp at h; done)
    exact ⟨m, g1, r, (r.size hd).symm, fun c hc => by rw [one_cells o] at hc; simp at hc; subst hc; exact o⟩
theorem pureL_rep {fr : Fr} {w : World} {g : Nat → Gh} : ∀ (xs : List SV) {os os1 : List SO} {ys : List SV} {vs : List Value}, Mem fr os g w → RepL w (Bk fr os g w) g xs vs →
    pureL xs os = some (ys, os1) → Mem fr os1 g w ∧ Grow fr os g w os1 g w ∧ RepL w (Bk fr os1 g w) G0 ys vs ∧
      ∀ (i : Nat) (y : SV) (v : Value), ys[i]? = some y → vs[i]? = some v → ElOK y.cells.length v := by
  intro xs
  induction xs with
  | nil =>
    intro os os1 ys vs hm hl h
    simp only [pureL] at h
    obtain ⟨rfl, rfl⟩ := Prod.mk.inj (Option.some.inj h)
    have := hl.1
    cases vs with
    | nil => exact ⟨hm, Grow.refl _ _ _ _, RepL.nil, fun i y v hv => by simp at hv⟩
    | cons => simp at this
  | cons x xs ih =>
    intro os os1 ys vs hm hl h
    obtain ⟨v, vs', rfl, hv, hl'⟩ := hl.uncons
    simp only [pureL] at h
    split at h
    · rename_i y os2 hy
      split at h
      · rename_i ys' os3 hys
        obtain ⟨rfl, rfl⟩ := Prod.mk.inj (Option.some.inj h)
        obtain ⟨m1, g1, r1, o1⟩ := pureS_rep hm hv hy
        obtain ⟨m2, g2, r2, o2⟩ := ih m1 (hl'.mono g1.sub g1.same g1.ext) hys
        refine ⟨m2, g1.trans g2, RepL.cons (r1.mono g2.sub g2.same G0 (fun _ h => absurd rfl h)) r2, fun i z u hz hu => ?_⟩
        cases i with
        | zero => simp at hz hu; subst hz; subst hu; exact o1
        | succ i => exact o2 i z u (by simpa using hz) (by simpa using hu)
      · simp at h
    · simp at h
theorem run_storeVar {t : Nat} {i : TI} (hi : TiOk P t i) {w : World} {b n o s0 : Nat} {v : Value} (h : Room w b n s0) (hs : v.cells.size = i.size) (ho : o + v.cells.size ≤ n)
    (h1 : ∀ u : Value, u ∈ v.cells.toList → u.oneCell' = true) : (Instr.storeAt t (.pointer (some ⟨b, o, none⟩)) v).run P w = .ok () (w.setCells b o v.cells.toList) := by
  obtain ⟨info, z, d, i1, i2, i3, i4, i5, i6, i7, i8, i9⟩ := hi.ok
  have := run_stores (P := P) (vs := v.cells.toList) h (by simpa using ho) h1
  simp [Instr.storeAt, Instr.sureAddr, storeVar, run_size i1, i2, hs, this]
theorem flatV_set {vs : List Value} {sz n off : Nat} {u u' : Value} {cs : List Value} (h : ∀ v : Value, v ∈ vs → ElOK sz v) (hu : vs[n]? = some u)
    (hc : u'.cells.toList = u.cells.toList.take off ++ cs ++ u.cells.toList.drop (off + cs.length)) (ho : off + cs.length ≤ sz) :
    flatV (vs.set n u') = (flatV vs).take (n * sz + off) ++ cs ++ (flatV vs).drop (n * sz + off + cs.length) := by
  have hn := lt_of_getElem? hu
  have hus : u.cells.toList.length = sz := by simpa using (h u (List.mem_of_getElem? hu)).1
  have e1 : vs = vs.take n ++ u :: vs.drop (n + 1) := by
    have : u = vs[n] := by rw [List.getElem?_eq_getElem hn] at hu; exact (Option.some.inj hu).symm
    rw [this, ← List.drop_eq_getElem_cons hn, List.take_append_drop]
  have hA : (flatV (vs.take n)).length = n * sz := by
    rw [flatV_length (fun v hv => h v (List.mem_of_mem_take hv)), List.length_take, Nat.min_eq_left (by omega)]
  have e2 : flatV vs = flatV (vs.take n) ++ (u.cells.toList ++ flatV (vs.drop (n + 1))) := by
    conv => lhs; rw [e1]
    simp [flatV]
  have e3 : flatV (vs.set n u') = flatV (vs.take n) ++ (u'.cells.toList ++ flatV (vs.drop (n + 1))) := by
    rw [List.set_eq_take_append_cons_drop, if_pos hn]
    simp [flatV]
  rw [e3, e2, hc]
  generalize flatV (vs.take n) = A at *
  generalize flatV (vs.drop (n + 1)) = D at *
  generalize u.cells.toList = U at *
  clear e1 e2 e3 hc hu h
  rw [List.take_append, List.drop_append, hA, List.take_of_length_le (show A.length ≤ n * sz + off by omega), show n * sz + off - n * sz = off by omega,
    List.take_append_of_le_length (show off ≤ U.length by omega), List.drop_eq_nil_of_le (show A.length ≤ n * sz + off + cs.length by omega),
    show n * sz + off + cs.length - n * sz = off + cs.length by omega, List.drop_append_of_le_length (show off + cs.length ≤ U.length by omega)]
  simp [List.append_assoc]
theorem setElem_rep {w : World} {B : Nat → Prop} {y : SV} {u : Value} {ys : List SV} {cs : List Value} {off : Nat} (hy : RepV w B G0 y u) (hd : y ≠ .dead) (hr : RepL w B G0 ys cs)
    (ho : ∀ c : Value, c ∈ cs → c.oneCell' = true) (hl : off + cs.length ≤ y.cells.length) (hp : 0 < cs.length) :
    ∃ u', RepV w B G0 (setElem y off ys) u' ∧ u'.cells.toList = u.cells.toList.take off ++ cs ++ u.cells.toList.drop (off + cs.length) := by
  by_cases ha : ∃ ly, y = .ag ly
  · obtain ⟨ly, rfl⟩ := ha
    cases hy with
    | ag a1 a2 a3 =>
      rename_i uv
      have hrl : RepL w B G0 ly uv := ⟨a1, a2⟩
      refine ⟨.agg (uv.take off ++ cs ++ uv.drop (off + cs.length)).toArray, ?_, by simp [Value.cells]⟩
      have h1 : setElem (.ag ly) off ys = .ag (splice ly off ys) := rfl
      rw [h1]
      have h2 : RepL w B G0 (splice ly off ys) (uv.take off ++ cs ++ uv.drop (off + cs.length)) := by
        simp only [splice, hr.1]
        exact ((hrl.take off).append hr).append (hrl.drop _)
      refine .ag h2.1 h2.2 fun z hz => ?_
      simp only [List.mem_append] at hz
      rcases hz with (hz | hz) | hz
      · exact a3 z (List.mem_of_mem_take hz)
      · exact ho z hz
      · exact a3 z (List.mem_of_mem_drop hz)
  · have hyc : y.cells = [y] := by
      cases y <;> first | rfl | exact absurd ⟨_, rfl⟩ ha
    have hs := hy.size hd
    rw [hyc] at hs hl
    simp at hs hl
    obtain rfl : off = 0 := by omega
    obtain ⟨c, rfl⟩ : ∃ c, cs = [c] := by
      match cs, hp, hl with
      | [c], _, _ => exact ⟨c, rfl⟩
    obtain ⟨z, rfl⟩ : ∃ z, ys = [z] := by
      have := hr.1
      match ys, this with
      | [z], _ => exact ⟨z, rfl⟩
    have e : setElem y 0 [z] = z := by
      cases y <;> first | rfl | exact absurd ⟨_, rfl⟩ ha
    rw [e]
    refine ⟨c, hr.2 0 z c rfl rfl, ?_⟩
    rw [one_cells (ho c (by simp))]
    have : u.cells.toList.length = 1 := by simp [← hs]
    rw [List.drop_eq_nil_of_le (by simp; omega)]
    rfl
theorem store_rep (hT : TabOk P T) {fr : Fr} {os os1 : List SO} {g : Nat → Gh} {w : World} (hm : Mem fr os g w) {t : Nat} {p x : SV} {pv xv : Value}
    (hp : RepV w (Bk fr os g w) g p pv) (hx : RepV w (Bk fr os g w) g x xv) (h : storeS T os t p x = some os1) :
    ∃ w', (Instr.storeAt t pv xv).run P w = .ok () w' ∧ Mem fr os1 g w' ∧ Grow fr os g w os1 g w' := by
  unfold storeS at h
  split at h
  · rename_i i hi
    have hti := hT.ti t i hi
    split at h
    · rename_i hsz
      split at h
      · rename_i j off
        split at h
        · rename_i l hj
          split at h
          · rename_i hc
            obtain rfl := Option.some.inj h
            have hd : x ≠ .dead := by intro e; subst e; have := hc.2; simp [SV.cells, okCell] at this
            have hxl := hx.cells hd
            have hxs : xv.cells.size = i.size := by rw [← hsz, hx.size hd]
            have hone : ∀ u : Value, u ∈ xv.cells.toList → u.oneCell' = true := fun u hu => by
              obtain ⟨k, hk, rfl⟩ := List.mem_iff_getElem.1 hu
              have hk' : k < x.cells.length := by rw [hxl.1]; exact hk
              exact okCell_one (hxl.2 k x.cells[k] _ (by simp [hk']) (by simp [hk])) (List.all_eq_true.1 hc.2 _ (List.getElem_mem hk'))
            obtain ⟨b, vs, e1, e2, e3, e4, e5⟩ := hm.objs _ _ hj
            cases hp with
            | ptr hp =>
              rw [e1] at hp
              cases hp
              have hle : off + xv.cells.size ≤ vs.length := by rw [hxs, ← e2.1]; exact hc.1
              have hb : (g j).has b := by rw [e1]; rfl
              have hs := size_setCells b xv.cells.toList off w
              have hw := fun c (hc : c ≠ b) => heap_setCells_ne b c (fun e => hc e.symm) xv.cells.toList off w
              have hg := (set_chg hm (out_setCells _ _ _ _) hj rfl hb (o' := .box (splice l off x.cells)) rfl hs hw).grow
              refine ⟨_, run_storeVar hti e5 hxs hle hone, set_mem hm (out_setCells _ _ _ _) hj rfl hb rfl (fun sz l e => by cases e) hs hw ?_, hg⟩
              refine ⟨b, vs.take off ++ xv.cells.toList ++ vs.drop (off + xv.cells.toList.length), e1, ?_, ?_, ?_, ?_⟩
              · have key : RepL w (Bk fr os g w) g (splice l off x.cells) (vs.take off ++ xv.cells.toList ++ vs.drop (off + xv.cells.toList.length)) := by
                  have hl := hxl.1
                  simp only [splice]
                  rw [hl]
                  exact ((e2.take off).append hxl).append (e2.drop _)
                exact key.mono hg.sub hg.same hg.ext
              · intro u hu
                simp only [List.mem_append] at hu
                rcases hu with (hu | hu) | hu
                · exact e3 u (List.mem_of_mem_take hu)
                · exact hone u hu
                · exact e3 u (List.mem_of_mem_drop hu)
              · exact cells_setCells e5 e4 (by omega) (by simpa using hle)
              · have : (vs.take off ++ xv.cells.toList ++ vs.drop (off + xv.cells.toList.length)).length = vs.length := by simp; omega
                rw [this]; exact room_setCells e5 _ _
          · simp at h
        · simp at h
      · rename_i j n off
        split at h
        · rename_i ys os2 hys
          split at h
          · rename_i lt sz l hj
            split at h
            · rename_i y hy
              split at h
              · rename_i yc hyc
                obtain ⟨hyd, rfl⟩ := dcells_eq hyc
                split at h
                · rename_i hle
                  obtain rfl := Option.some.inj h
                  have hd : x ≠ .dead := by intro e; subst e; simp [SV.cells, pureCells, pureCell] at hys
                  have hxl := hx.cells hd
                  have hxs : xv.cells.size = i.size := by rw [← hsz, hx.size hd]
                  obtain ⟨m1, g1, r1, o1⟩ := pureCells_rep _ hm hxl hys
                  rcases m1.objs _ _ hj with ⟨rfl, hn⟩ | ⟨b, cap, vs, e1, e2, e3, e4, e5, e6⟩
                  · simp at hy
                  · cases hp with
                    | ap hp =>
                      rw [e1] at hp
                      cases hp
                      obtain ⟨u, hu, hyu⟩ := e3.get hy
                      have hn := lt_of_getElem? hu
                      have husz := (e4 u (List.mem_of_getElem? hu)).1
                      have hu1 := (e4 u (List.mem_of_getElem? hu)).2
                      have hxlen : xv.cells.toList.length = i.size := by simpa using hxs
                      have hys' : y.cells.length = sz := by rw [hyu.size hyd]; exact husz
                      obtain ⟨u', q1, q2⟩ := setElem_rep hyu hyd r1 o1 (by rw [hxlen]; exact hle.1) (by rw [hxlen]; exact hle.2)
                      have q3 : off + xv.cells.toList.length ≤ sz := by rw [hxlen, ← hys']; exact hle.1
                      have hlen := flatV_length e4
                      have hmul : (n + 1) * sz ≤ vs.length * sz := Nat.mul_le_mul_right _ hn
                      have hmul2 : vs.length * sz ≤ cap * sz := Nat.mul_le_mul_right _ (by rw [← e3.1]; exact e2)
                      rw [Nat.succ_mul] at hmul
                      have hb : (g j).has b := by rw [e1]; rfl
                      have hs := size_setCells b xv.cells.toList (n * sz + off) w
                      have hw := fun c (hc : c ≠ b) => heap_setCells_ne b c (fun e => hc e.symm) xv.cells.toList (n * sz + off) w
                      have hg := (set_chg m1 (out_setCells _ _ _ _) hj rfl hb (o' := .arr lt sz (l.set n (setElem y off ys))) rfl hs hw).grow
                      have hu'sz : u'.cells.size = sz := by
                        have : u'.cells.toList.length = u.cells.toList.length := by
                          rw [q2]
                          have : u.cells.toList.length = sz := by simpa using husz
                          simp; omega
                        simp at this; omega
                      refine ⟨_, run_storeVar hti e6 hxs (by rw [show xv.cells.size = xv.cells.toList.length by simp]; omega) o1, set_mem m1 (out_setCells _ _ _ _) hj rfl hb rfl (fun sz' l' e => ?_) hs hw ?_, g1.trans hg⟩
                      · cases e; exact ⟨_, _, rfl⟩
                      · refine .inr ⟨b, cap, vs.set n u', by simpa using e1, by simpa using e2, ?_, ?_, ?_, room_setCells e6 _ _⟩
                        · refine ⟨by simp [e3.1], fun k z c hz hc => ?_⟩
                          rw [List.getElem?_set] at hz hc
                          split at hz
                          · rename_i e
                            subst e
                            have h1 : n < l.length := lt_of_getElem? hy
                            first
                              | (rw [if_pos h1] at hz; rw [if_pos rfl, if_pos hn] at hc; obtain rfl := Option.some.inj hz; obtain rfl := Option.some.inj hc; exact q1.mono hg.sub hg.same G0 (fun _ h => absurd rfl h))
                              | (rw [if_pos rfl] at hc; obtain rfl := Option.some.inj hz; obtain rfl := Option.some.inj hc; exact q1.mono hg.sub hg.same G0 (fun _ h => absurd rfl h))
                          · rename_i e
                            rw [if_neg e] at hc
                            exact (e3.2 k z c hz hc).mono hg.sub hg.same G0 (fun _ h => absurd rfl h)
                        · intro v hv
                          rcases List.mem_or_eq_of_mem_set hv with hv | rfl
                          · exact e4 v hv
                          · refine ⟨hu'sz, fun c hc => ?_⟩
                            rw [q2] at hc
                            simp only [List.mem_append] at hc
                            rcases hc with (hc | hc) | hc
                            · exact hu1 c (List.mem_of_mem_take hc)
                            · exact o1 c hc
                            · exact hu1 c (List.mem_of_mem_drop hc)
                        · rw [flatV_set e4 hu q2 q3]
                          exact cells_setCells e6 e5 (by omega) (by omega)
                · simp at h
              · simp at h
            · simp at h
          · simp at h
        · simp at h
      · simp at h
    · simp at h
  · simp at h
end Go.Proofs.Ytikennabfbkdhaa

/- The evaluator S: slice literals, make, append, copy. -/
namespace Go.Proofs.Ytikennabfbkdhaa
open Go
set_option linter.unusedVariables false
set_option linter.unusedSimpArgs false
variable {P : Program} {T : Tab}
theorem fill_dense (sz : Nat) : ∀ (qs : List (Nat × Value)) (done : List Value) (rest : List Value) (n : Nat), qs.map (·.1) = List.range' done.length n → (∀ q, q ∈ qs → ElOK sz q.2) → (∀ v : Value, v ∈ done → ElOK sz v) →
    rest.length = qs.length * sz → Instr.fill (fun i => some (i * sz, sz)) (flatV done ++ rest).toArray qs = some (flatV (done ++ qs.map (·.2))).toArray := by
  intro qs
  induction qs with
  | nil =>
    intro done rest n h1 h2 h3 h4
    obtain rfl : rest = [] := by simpa using h4
    simp [Instr.fill]
  | cons q qs ih =>
    intro done rest n h1 h2 h3 h4
    obtain ⟨k, v⟩ := q
    have hv : v.cells.size = sz := (h2 (k, v) (by simp)).1
    cases n with
    | zero => simp at h1
    | succ n =>
      rw [List.range'_succ] at h1
      simp only [List.map_cons, List.cons.injEq] at h1
      obtain ⟨hk, h1⟩ := h1
      subst hk
      have hdl := flatV_length h3
      simp only [List.length_cons, Nat.succ_mul] at h4
      rw [fill_step _ _ done.length (done.length * sz) v qs (by rw [hv]) (by simp [hdl, hv]; omega)]
      have e : ((flatV done ++ rest).toArray.toList.take (done.length * sz) ++ v.cells.toList ++ (flatV done ++ rest).toArray.toList.drop (done.length * sz + v.cells.size)) =
          flatV (done ++ [v]) ++ rest.drop sz := by
        simp only [flatV_append]
        rw [List.take_left' hdl, hv, ← List.drop_drop, List.drop_left' hdl]
        simp [flatV]
      rw [e]
      have := ih (done ++ [v]) (rest.drop sz) n (by simpa using h1) (fun q hq => h2 q (by simp [hq])) (fun u hu => by
        rcases List.mem_append.1 hu with hu | hu
        · exact h3 u hu
        · simp at hu; subst hu; exact h2 (done.length, u) (by simp)) (by simp; omega)
      rw [this]
      simp
theorem buildSlice_rep (hT : TabOk P T) {fr : Fr} {os os1 : List SO} {g : Nat → Gh} {w : World} (hm : Mem fr os g w) {env : Env} {a : Act} (hs : Slots w (Bk fr os g w) g env a.tmps) {t n : Nat} {ps : Array (Nat × Operand)} {y : SV}
    (h : buildSliceS T os t n (ps.toList.map fun p => (p.1, ev env p.2)) = some (y, os1)) :
    ∃ v w', (Instr.buildSlice t n (ps.map fun (i, x) => (i, a.eval x))).run P w = .ok v w' ∧ Res fr os g w os1 y v w' := by
  unfold buildSliceS at h
  split at h
  · rename_i e hu
    split at h
    · rename_i i hi
      split at h
      · rename_i hc
        split at h
        · rename_i l os2 hl
          split at h
          · rename_i hall
            obtain ⟨rfl, rfl⟩ := Prod.mk.inj (Option.some.inj h)
            obtain ⟨info, z, d, i1, i2, i3, i4, i5, i6, i7, i8, i9⟩ := (hT.ti e i hi).ok
            have ht := hT.slice t e hu
            have hrl : RepL w (Bk fr os g w) g ((ps.toList.map fun p => (p.1, ev env p.2)).map (·.2)) (ps.toList.map fun p => a.eval p.2) := by
              simp only [List.map_map]
              refine ⟨by simp, fun k x v hx hv => ?_⟩
              rw [List.getElem?_map] at hx hv
              obtain ⟨p, hp, rfl⟩ := Option.map_eq_some_iff.1 hx
              rw [hp] at hv
              obtain rfl := Option.some.inj hv
              exact ev_rep hs p.2
            obtain ⟨m1, g1, r1, r2⟩ := pureL_rep _ hm hrl hl
            have hn : ps.toList.length = n := by
              have := congrArg List.length hc.1
              simpa using this
            have hll : l.length = n := by rw [r1.1]; simpa using hn
            have hsz : ∀ v : Value, v ∈ ps.toList.map (fun p => a.eval p.2) → ElOK i.size v := by
              intro v hv
              obtain ⟨k, hk, rfl⟩ := List.mem_iff_getElem.1 hv
              have hk' : k < l.length := by rw [r1.1]; exact hk
              have := List.all_eq_true.1 hall _ (List.getElem_mem hk')
              have h2 := r2 k l[k] _ (List.getElem?_eq_getElem hk') (List.getElem?_eq_getElem hk)
              rw [show l[k].cells.length = i.size by simpa using this] at h2
              exact h2
            obtain ⟨g2, m2, gr2, rr⟩ := push_arr m1 (l := l) (junk := []) (sz := i.size) (cap := n) r1 hsz (by omega) (by simp [flatV_length hsz]; rw [show ps.size = n by simpa using hn]) e
            simp only [List.append_nil, hll] at rr gr2 m2
            refine ⟨_, _, ?_, g2, m2, g1.trans gr2, rr⟩
            have hfill : ∀ Z : Array Value, Instr.fill (fun j => some (j * i.size, i.size)) ((Array.range (n * i.size)).map (fun j => Z[j % Z.size]!)) (ps.map fun (i, x) => (i, a.eval x)).toList =
                some (flatV (ps.toList.map fun p => a.eval p.2)).toArray := by
              intro Z
              have := fill_dense i.size (ps.toList.map fun p => (p.1, a.eval p.2)) [] ((Array.range (n * i.size)).map (fun j => Z[j % Z.size]!)).toList n
                (by simp only [List.length_nil, List.map_map]; rw [← List.range_eq_range', ← hc.1]; simp) (fun q hq => hsz q.2 (by
                  obtain ⟨p, hp, rfl⟩ := List.mem_map.1 hq
                  exact List.mem_map.2 ⟨p, hp, rfl⟩)) (fun v hv => by simp at hv) (by simp; rw [show ps.size = n by simpa using hn])
              simp only [flatV, List.flatMap_nil, List.nil_append, Array.toArray_toList, List.map_map] at this
              rw [Array.toList_map]
              exact this
            have hle : ¬ (n * i.size > 2 ^ 24) := by omega
            by_cases h0 : n * i.size = 0
            · have hf := hfill #[]
              rw [h0, Array.toList_map] at hf
              simp only [Instr.buildSlice, Sem.run_bind, run_underlying ht, Result.andThen_ok, run_size i1, i2, h0, if_true, Sem.run_pure, newRow, run_newObj, Array.toList_map]
              rw [if_neg (by omega)]
              simp only [Sem.run_bind, Sem.run_pure, Result.andThen_ok]
              rw [hf]
              rfl
            · have hf := hfill z.cells
              rw [Array.toList_map] at hf
              simp only [Instr.buildSlice, Sem.run_bind, run_underlying ht, Result.andThen_ok, run_size i1, i2, h0, if_false, run_zero i1 i4, Sem.run_pure, newRow, run_newObj, Array.toList_map]
              rw [if_neg hle]
              simp only [Sem.run_bind, Sem.run_pure, Result.andThen_ok, run_zero i1 i4]
              rw [hf]
              rfl
          · simp at h
        · simp at h
      · simp at h
    · simp at h
  · simp at h
theorem nilSl_rep (hT : TabOk P T) {fr : Fr} {os os1 : List SO} {g : Nat → Gh} {w : World} (hm : Mem fr os g w) {a : Act} {t n : Nat} {ps : Array (Nat × Operand)} {y : SV} (hn : n = 0) (hp : ps.toList.length = 0)
    (h : nilSl T os t = some (y, os1)) : ∃ v w', (Instr.buildSlice t n (ps.map fun (i, x) => (i, a.eval x))).run P w = .ok v w' ∧ Res fr os g w os1 y v w' := by
  subst hn
  obtain rfl : ps = #[] := by cases ps; simpa using hp
  unfold nilSl at h
  split at h
  · rename_i e hu
    split at h
    · rename_i i hi
      cases h
      obtain ⟨info, z, d, i1, i2, i3, i4, i5, i6, i7, i8, i9⟩ := (hT.ti e i hi).ok
      have ht := hT.slice t e hu
      have hc : Chg fr os g w os g (w.alloc (.cells #[] e)) (fun _ => False) :=
        ⟨by simp, fun b hb _ => heap_alloc_lt w _ b hb, fun b hb => hb.elim, fun _ _ => rfl, fun b hb => ⟨.inl hb, Nat.lt_of_lt_of_le (hm.own b hb).1 (by simp)⟩, out_alloc w _⟩
      refine ⟨.slice (some ⟨w.heap.size, 0, none⟩) 0 0, w.alloc (.cells #[] e), ?_, g, hc.mem hm (fun j o hj => .inl ⟨hj, fun _ _ _ h => h⟩) hm.fresh hm.inj hm.mine, hc.grow, .sl0⟩
      simp only [Instr.buildSlice, Sem.run_bind, run_underlying ht, Result.andThen_ok, run_size i1, i2, Nat.zero_mul, if_true, Sem.run_pure, newRow, run_newObj, Array.toList_map]
      rw [if_neg (by omega)]
      simp only [Sem.run_bind, Sem.run_pure, Result.andThen_ok]
      have e0 : Array.range 0 = #[] := rfl
      rw [e0]
      simp only [Array.map_empty, List.map_nil, Instr.fill]
      simp only [Sem.run_bind, run_newObj, Sem.run_pure, Result.andThen_ok]
      rfl
    · cases h
  · cases h
theorem pzS_spec {t n k : Nat} (h : pzS T t n k = true) : n = 0 ∧ k = 0 := by
  unfold pzS at h
  simp only [Bool.and_eq_true] at h
  exact ⟨Nat.eq_of_beq_eq_true h.1.2, Nat.eq_of_beq_eq_true h.2⟩
theorem buildSliceO_rep (hT : TabOk P T) {fr : Fr} {os os1 : List SO} {g : Nat → Gh} {w : World} (hm : Mem fr os g w) {env : Env} {a : Act} (hs : Slots w (Bk fr os g w) g env a.tmps) {t n : Nat} {ps : Array (Nat × Operand)} {y : SV}
    (h : buildSliceO T os t n (ps.toList.map fun p => (p.1, ev env p.2)) = some (y, os1)) :
    ∃ v w', (Instr.buildSlice t n (ps.map fun (i, x) => (i, a.eval x))).run P w = .ok v w' ∧ Res fr os g w os1 y v w' := by
  unfold buildSliceO at h
  split at h
  · rename_i hp
    obtain ⟨h1, h2⟩ := pzS_spec hp
    exact nilSl_rep hT hm h1 (by simpa using h2) h
  · exact buildSlice_rep hT hm hs h
theorem made_flat (z : Value) (c : Nat) (hz : 0 < z.cells.size) : (madeCells z.cells (c * z.cells.size)).toList = flatV (List.replicate c z) := by
  induction c with
  | zero => simp [madeCells, flatV]
  | succ c ih =>
    simp only [madeCells, Array.toList_map, Array.toList_range] at ih ⊢
    rw [Nat.succ_mul, List.range_add, List.map_append, ih, List.replicate_succ']
    simp only [flatV_append, List.map_map]
    congr 1
    simp only [flatV, List.flatMap_cons, List.flatMap_nil, List.append_nil]
    apply List.ext_getElem
    · simp
    · intro k h1 h2
      have hk : k < z.cells.size := by simpa using h1
      simp [Nat.mul_comm c, Nat.mod_eq_of_lt hk, hk]
theorem zeroP_rep {w : World} {B : Nat → Prop} : ∀ (zs : List ZK), RepL w B G0 (zeroP zs) (zs.map ZK.val) := by
  intro zs
  induction zs with
  | nil => exact RepL.nil
  | cons z zs ih =>
    by_cases hz : ∃ sz, z = .sl sz
    · obtain ⟨sz, rfl⟩ := hz
      exact RepL.cons .sl0 ih
    · have hz' : ∀ sz, z ≠ .sl sz := fun sz e => hz ⟨sz, e⟩
      have e : zeroP (z :: zs) = .v z.val :: zeroP zs := by
        cases z <;> first | rfl | exact absurd rfl (hz' _)
      rw [e]
      exact RepL.cons (.v (zk_scalar hz')) ih
theorem rep_replicate {w : World} {B : Nat → Prop} {g : Nat → Gh} {x : SV} {v : Value} (h : RepV w B g x v) (n : Nat) : RepL w B g (List.replicate n x) (List.replicate n v) := by
  refine ⟨by simp, fun i y c hy hc => ?_⟩
  have h1 := List.mem_of_getElem? hy
  have h2 := List.mem_of_getElem? hc
  rw [List.eq_of_mem_replicate h1, List.eq_of_mem_replicate h2]
  exact h
theorem make_rep (hT : TabOk P T) {fr : Fr} {os os1 : List SO} {g : Nat → Gh} {w : World} (hm : Mem fr os g w) {t : Nat} {n c y : SV} {nv cv : Value}
    (hn : RepV w (Bk fr os g w) g n nv) (hc : RepV w (Bk fr os g w) g c cv) (h : makeS T os t n c = some (y, os1)) :
    ∃ v w', (Instr.makeSlice t nv cv).run P w = .ok v w' ∧ Res fr os g w os1 y v w' := by
  unfold makeS at h
  split at h
  · rename_i e k n k' c hu
    obtain rfl := v_rep hn
    obtain rfl := v_rep hc
    split at h
    · rename_i i hi
      split at h
      · rename_i hcond
        obtain ⟨c1, c2, c3, c4⟩ := hcond
        split at h
        · rename_i zS hz
          obtain ⟨rfl, rfl⟩ := Prod.mk.inj (Option.some.inj h)
          obtain ⟨info, z, d, i1, i2, i3, i4, i5, i6, i7, i8, i9⟩ := (hT.ti e i hi).ok
          have ht := hT.slice t e hu
          obtain ⟨p1, p2⟩ := pack_rep hz (zeroP_rep (w := w) (B := Bk fr os g w) i.zero)
          have hzc : z.cells.size = i.size := by
            have : z.cells.toList.length = i.size := by rw [i5]; simpa using i9
            simpa using this
          have hzr : RepV w (Bk fr os g w) G0 zS z := by
            cases ha : i.agg with
            | true =>
              have := p1 ha
              obtain ⟨cs, rfl⟩ := i8.1 ha
              rw [← i5] at this
              simpa [Value.cells] using this
            | false =>
              obtain ⟨v, hv, hr⟩ := p2 ha
              rw [← i5, one_cells (i8.2 ha)] at hv
              simp at hv
              rw [hv]; exact hr
          have hz1 : ∀ c, c ∈ z.cells.toList → c.oneCell' = true := fun c hc => by rw [i5] at hc; obtain ⟨q, _, rfl⟩ := List.mem_map.1 hc; exact zk_one q
          have hlenz : (List.replicate n.toNat zS).length = n.toNat := by simp
          have hpos : c.toNat = n.toNat + (c.toNat - n.toNat) := by omega
          have hflat : (madeCells z.cells (c.toNat * i.size)).toList = flatV (List.replicate n.toNat z) ++ (madeCells z.cells (c.toNat * i.size)).toList.drop (n.toNat * i.size) := by
            by_cases h0 : 0 < z.cells.size
            · rw [← hzc, made_flat z c.toNat h0, hpos, ← List.replicate_append_replicate, flatV_append]
              have : (flatV (List.replicate n.toNat z)).length = n.toNat * z.cells.size := by
                rw [flatV_length (sz := z.cells.size) (fun v hv => by rw [List.eq_of_mem_replicate hv]; exact ⟨rfl, hz1⟩), List.length_replicate]
              rw [List.drop_left' this]
            · have e0 : i.size = 0 := by omega
              have e1 : z.cells = #[] := by
                have : z.cells.size = 0 := by omega
                exact Array.eq_empty_of_size_eq_zero this
              have e2 : flatV (List.replicate n.toNat z) = [] := by
                rw [← List.length_eq_zero_iff, flatV_length (sz := 0) (fun v hv => by rw [List.eq_of_mem_replicate hv]; exact ⟨by rw [e1]; rfl, hz1⟩)]; simp
              rw [e0, e2]; simp
          obtain ⟨g2, m2, gr2, rr⟩ := push_arr hm (l := List.replicate n.toNat zS) (junk := (madeCells z.cells (c.toNat * i.size)).toList.drop (n.toNat * i.size)) (sz := i.size) (cap := c.toNat) (rep_replicate hzr n.toNat)
            (fun v hv => by rw [List.eq_of_mem_replicate hv]; exact ⟨hzc, hz1⟩) (by simp; omega) (by rw [← hflat]; simp [size_madeCells]) e
          rw [← hflat, Array.toArray_toList] at rr gr2 m2
          rw [hlenz] at rr
          refine ⟨_, _, run_make w t e info z ht i1 i4 k k' n c c1 c2 (by rw [i3]; omega) (by omega), g2, ?_, ?_, ?_⟩
          all_goals (rw [i2]; first | exact m2 | exact gr2 | exact rr)
        · simp at h
      · simp at h
    · simp at h
  · simp at h
end Go.Proofs.Ytikennabfbkdhaa
