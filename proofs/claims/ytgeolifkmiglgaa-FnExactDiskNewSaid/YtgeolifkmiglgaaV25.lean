/- What is to be in for a name to be: what the reference gives. -/
import Derived.Test.YtgeolifkmiglgaaV21
import Derived.Test.YtgeolifkmiglgaaV24
namespace Go.Proofs.Ytgeolifkmiglgaa
open Go
set_option linter.unusedVariables false
set_option linter.unusedSimpArgs false
set_option maxHeartbeats 4000000

/-- The newer one of what is kept and what is in. -/
def pickP (st hv : List TPkg) (n : Int) : TPkg × Bool :=
  if (newestP st n).2 = true ∧ ((newestP hv n).2 = false ∨ (newestP hv n).1.ver < (newestP st n).1.ver) then ((newestP st n).1, true) else newestP hv n

theorem s_l13Is (s : List TPkg) (hs : s.length ≤ 2000000) (hp0 : PL s) (name : Int) : Ex (fun m => callF prg m 116 [.sl 4 (s.map ePkg), iI name] []) (bB (newestP s name).2) [] := by
  refine ev_is.1 ?_
  (refine U116 (nl := 0) rfl ?_; unfold B116)
  repeat' (first | ((with_reducible refine eC ?_); first | ((refine ev_callE (s_l12Newest s hs hp0 name) rfl rfl ?_); ((rintro _ _ ⟨p, ok, h1, rfl, rfl⟩) <;> (first | (refine ev_post ?_ rfl ?_; (focus first | exact .inl rfl | exact .inr rfl | (refine .inr ?_; simp [flagC, ownF, hasSl3, hasSl1, SO.hasSl, List.all_map, flatSV, SV.cells, Function.comp_def]; done))) | (refine ev_postF ?_ rfl ?_; (focus first | rfl | (simp [flagC, ownF, hasSl3, hasSl1, SO.hasSl, List.all_map, flatSV, SV.cells, Function.comp_def]; done))))))) | ((with_reducible refine eD ?_); first | refine ev_bd rfl ?_ | refine ev_bd0 rfl ?_) | refine ev_ret rfl ?_)
  all_goals exact ⟨congrArg bB (by rw [h1]), rfl⟩
theorem s_l13Pick (st hv : List TPkg) (hs : st.length ≤ 2000000) (hp0 : PL st) (hs2 : hv.length ≤ 2000000) (hp2 : PL hv) (name : Int) : Ev (fun m => callF prg m 117 [.sl 4 (st.map ePkg), .sl 4 (hv.map ePkg), iI name] []) (QNew (pickP st hv name)) := by
  (refine U117 (nl := 0) rfl ?_; unfold B117)
  repeat' (first | ((with_reducible refine eG ?_); first | (with_reducible first | refine ev_gtt ?_ | refine ev_gff ?_ | refine ev_gtf ?_ | refine ev_gft ?_ | refine ev_gu ?_) | refine ev_bd rfl ?_ | refine ev_bd0 rfl ?_ | ((with_reducible refine ev_gB ?_ ?_) <;> intro h)) | ((with_reducible refine eB ?_); first | ((with_reducible refine ev_gtr ?_ ?_) <;> intro h <;> try (exfalso; omega)) | refine ev_bd rfl ?_ | refine ev_bd0 rfl ?_) | ((with_reducible refine eC ?_); first | ((refine ev_callE (s_l12Newest st hs hp0 name) rfl rfl ?_); ((rintro _ _ ⟨p, ok, h1, rfl, rfl⟩) <;> ((rcases ok with _ | _)) <;> (first | (refine ev_post ?_ rfl ?_; (focus first | exact .inl rfl | exact .inr rfl | (refine .inr ?_; simp [flagC, ownF, hasSl3, hasSl1, SO.hasSl, List.all_map, flatSV, SV.cells, Function.comp_def]; done))) | (refine ev_postF ?_ rfl ?_; (focus first | rfl | (simp [flagC, ownF, hasSl3, hasSl1, SO.hasSl, List.all_map, flatSV, SV.cells, Function.comp_def]; done)))))) | ((refine ev_callE (s_l12Newest hv hs2 hp2 name) rfl rfl ?_); ((rintro _ _ ⟨p2, ok2, h2, rfl, rfl⟩) <;> ((rcases ok2 with _ | _)) <;> (first | (refine ev_post ?_ rfl ?_; (focus first | exact .inl rfl | exact .inr rfl | (refine .inr ?_; simp [flagC, ownF, hasSl3, hasSl1, SO.hasSl, List.all_map, flatSV, SV.cells, Function.comp_def]; done))) | (refine ev_postF ?_ rfl ?_; (focus first | rfl | (simp [flagC, ownF, hasSl3, hasSl1, SO.hasSl, List.all_map, flatSV, SV.cells, Function.comp_def]; done))))))) | ((with_reducible refine eK ?_); first | (with_reducible first | refine ev_ct ?_ | refine ev_cf ?_) | ((with_reducible refine ev_cond ?_ ?_) <;> intro h)) | ((with_reducible refine eO ?_); first | refine ev_bd rfl ?_ | (refine ev_bdB rfl ?_ ?_ <;> intro h <;> try (exfalso; simp_all; done)) | refine ev_bd0 rfl ?_ | (refine ev_ldm rfl ?_ rfl ?_; (focus omega)) | (refine ev_ldmB rfl ?_ rfl ?_ ?_; (focus omega); (all_goals intro h))) | ((with_reducible refine eD ?_); first | refine ev_bd rfl ?_ | refine ev_bd0 rfl ?_ | ((with_reducible refine ev_pickB ?_ ?_) <;> intro h)) | (with_reducible refine ev_bothI ?_ ?_) | refine ev_ret rfl ?_)
  all_goals (refine ⟨_, _, ?_, rfl, rfl⟩; simp [pickP, h1, h2, *])

theorem pick_true {st hv : List TPkg} {n : Int} {p : TPkg} (h : pickP st hv n = (p, true)) : p.name = n ∧ (p ∈ st ∨ p ∈ hv) := by
  unfold pickP at h
  split at h
  · rename_i h0
    obtain ⟨rfl, -⟩ := Prod.mk.inj h
    obtain ⟨h1, h2, -⟩ := newest_true (s := st) (name := n) (p := (newestP st n).1) (Prod.ext rfl h0.1)
    exact ⟨h2, .inl h1⟩
  · obtain ⟨h1, h2, -⟩ := newest_true h
    exact ⟨h2, .inr h1⟩
/-- Which names come to be in. -/
inductive Reach (st hv : List TPkg) (name : Int) : Int → Prop
  | this : Reach st hv name name
  | was {p : TPkg} : p ∈ hv → Reach st hv name p.name
  | need {n : Int} {p : TPkg} {d : TDep} : Reach st hv name n → pickP st hv n = (p, true) → d ∈ p.deps → Reach st hv name d.name
noncomputable def reachB (st hv : List TPkg) (name n : Int) : Bool := @decide (Reach st hv name n) (Classical.propDecidable _)
theorem reachB_iff {st hv : List TPkg} {name n : Int} : reachB st hv name n = true ↔ Reach st hv name n := by
  unfold reachB; exact @decide_eq_true_iff _ (Classical.propDecidable _)
def allPick (st hv : List TPkg) (name : Int) : Prop := ∀ n, Reach st hv name n → (pickP st hv n).2 = true
/-- What is to be in, if there is one of each. -/
noncomputable def outP (st hv : List TPkg) (name : Int) : List TPkg := (([1, 2, 3, 4] : List Int).filter (reachB st hv name)).map fun n => (pickP st hv n).1
open Classical in
noncomputable def forP (st hv : List TPkg) (name : Int) : List TPkg × Bool := if allPick st hv name ∧ planOk (outP st hv name) = true then (outP st hv name, true) else ([], false)
theorem forP_no {st hv : List TPkg} {name : Int} (h : ¬ (allPick st hv name ∧ planOk (outP st hv name) = true)) : forP st hv name = ([], false) := by unfold forP; rw [if_neg h]
theorem forP_yes {st hv : List TPkg} {name : Int} (h1 : allPick st hv name) (h2 : planOk (outP st hv name) = true) : forP st hv name = (outP st hv name, true) := by unfold forP; rw [if_pos ⟨h1, h2⟩]

def srt (l : List TPkg) : Prop := l.Pairwise fun a b => a.name < b.name
theorem srt_ext : ∀ {l m : List TPkg}, srt l → srt m → (∀ x, x ∈ l ↔ x ∈ m) → l = m
  | [], [], _, _, _ => rfl
  | [], y :: m, _, _, h => by have := (h y).2 (by simp); cases this
  | x :: l, [], _, _, h => by have := (h x).1 (by simp); cases this
  | x :: l, y :: m, h1, h2, h => by
    obtain ⟨a1, a2⟩ := List.pairwise_cons.1 h1
    obtain ⟨b1, b2⟩ := List.pairwise_cons.1 h2
    have e : x = y := by
      rcases List.mem_cons.1 ((h x).1 (by simp)) with e | hx
      · exact e
      · rcases List.mem_cons.1 ((h y).2 (by simp)) with e | hy
        · exact e.symm
        · have := a1 y hy; have := b1 x hx; omega
    subst e
    refine congrArg _ (srt_ext a2 b2 fun z => ?_)
    constructor
    · intro hz
      rcases List.mem_cons.1 ((h z).1 (List.mem_cons_of_mem _ hz)) with e | hz2
      · subst e; have := a1 _ hz; omega
      · exact hz2
    · intro hz
      rcases List.mem_cons.1 ((h z).2 (List.mem_cons_of_mem _ hz)) with e | hz2
      · subst e; have := b1 _ hz; omega
      · exact hz2
theorem srt_len : ∀ {l : List TPkg} {lo : Int}, srt l → (∀ p, p ∈ l → lo ≤ p.name ∧ p.name ≤ 4) → lo ≤ 5 → (l.length : Int) ≤ 5 - lo
  | [], lo, _, _, h => by simp; omega
  | x :: l, lo, h1, h2, h => by
    obtain ⟨a1, a2⟩ := List.pairwise_cons.1 h1
    have hx := h2 x (by simp)
    have := srt_len (l := l) (lo := x.name + 1) a2 (fun p hp => ⟨by have := a1 p hp; omega, (h2 p (List.mem_cons_of_mem _ hp)).2⟩) (by omega)
    simp only [List.length_cons]; omega
theorem mem_with {l : List TPkg} {p : TPkg} (h : ∀ x, x ∈ l → x.name ≠ p.name) (y : TPkg) : y ∈ withP l p ↔ y ∈ l ∨ y = p := by
  simp only [withP, List.mem_append, List.mem_filter, List.mem_singleton, decide_eq_true_eq]
  constructor
  · rintro ((⟨a, -⟩ | a) | ⟨a, -⟩)
    · exact .inl a
    · exact .inr a
    · exact .inl a
  · rintro (a | a)
    · have := h y a
      unfold pless
      by_cases e : y.name < p.name
      · exact .inl (.inl ⟨a, .inl e⟩)
      · exact .inr ⟨a, .inl (by omega)⟩
    · exact .inl (.inr a)
theorem srt_with {l : List TPkg} {p : TPkg} (hs : srt l) (h : ∀ x, x ∈ l → x.name ≠ p.name) : srt (withP l p) := by
  unfold srt withP
  rw [List.pairwise_append, List.pairwise_append]
  refine ⟨⟨hs.filter _, by simp, ?_⟩, hs.filter _, ?_⟩
  · intro a ha b hb
    obtain ⟨a1, a2⟩ := List.mem_filter.1 ha
    obtain rfl := List.mem_singleton.1 hb
    have := h a a1
    have a3 := of_decide_eq_true a2; unfold pless at a3; omega
  · intro a ha b hb
    obtain ⟨b1, b2⟩ := List.mem_filter.1 hb
    have hb3 := h b b1
    have b4 := of_decide_eq_true b2; unfold pless at b4
    rcases List.mem_append.1 ha with ha | ha
    · obtain ⟨a1, a2⟩ := List.mem_filter.1 ha
      have := h a a1
      have a3 := of_decide_eq_true a2; unfold pless at a3; omega
    · obtain rfl := List.mem_singleton.1 ha; omega
theorem len_with {l : List TPkg} {p : TPkg} (h : ∀ x, x ∈ l → x.name ≠ p.name) : (withP l p).length = l.length + 1 := by
  have key : ∀ l : List TPkg, (∀ x, x ∈ l → x.name ≠ p.name) → (l.filter fun x => decide (pless x p)).length + (l.filter fun x => decide (pless p x)).length = l.length := by
    intro l
    induction l with
    | nil => intro _; rfl
    | cons x xs ih =>
      intro hh
      have h1 := ih fun y hy => hh y (List.mem_cons_of_mem _ hy)
      have h2 := hh x (by simp)
      by_cases e : x.name < p.name
      · have e1 : pless x p := .inl e
        have e2 : ¬ pless p x := by unfold pless; omega
        simp only [List.filter_cons, e1, e2, decide_true, decide_false, if_true, List.length_cons]
        simp; omega
      · have e1 : ¬ pless x p := by unfold pless; omega
        have e2 : pless p x := .inl (by omega)
        simp only [List.filter_cons, e1, e2, decide_true, decide_false, if_true, List.length_cons]
        simp; omega
  have := key l h
  simp only [withP, List.length_append, List.length_cons, List.length_nil]; omega

theorem reach_in {st hv : List TPkg} {name : Int} (hn : 1 ≤ name ∧ name ≤ 4) (ht : tames st) (ht2 : tames hv) {n : Int} (h : Reach st hv name n) : 1 ≤ n ∧ n ≤ 4 := by
  cases h with
  | this => exact hn
  | was hp => exact (ht2 _ hp).1
  | need h1 h2 h3 =>
    rcases (pick_true h2).2 with e | e
    · exact (ht _ e).2 _ h3
    · exact (ht2 _ e).2 _ h3
theorem outP_mem {st hv : List TPkg} {name : Int} (hn : 1 ≤ name ∧ name ≤ 4) (ht : tames st) (ht2 : tames hv) (ha : allPick st hv name) {p : TPkg} : p ∈ outP st hv name ↔ Reach st hv name p.name ∧ pickP st hv p.name = (p, true) := by
  unfold outP
  rw [List.mem_map]
  constructor
  · rintro ⟨n, h1, rfl⟩
    obtain ⟨-, h2⟩ := List.mem_filter.1 h1
    have h3 := reachB_iff.1 h2
    have h4 : pickP st hv n = ((pickP st hv n).1, true) := Prod.ext rfl (ha n h3)
    have h5 := (pick_true h4).1
    rw [h5]; exact ⟨h3, h4⟩
  · rintro ⟨h1, h2⟩
    have h3 := reach_in hn ht ht2 h1
    refine ⟨p.name, List.mem_filter.2 ⟨?_, reachB_iff.2 h1⟩, by rw [h2]⟩
    simp only [List.mem_cons, List.not_mem_nil, or_false]; omega
theorem outP_srt {st hv : List TPkg} {name : Int} (ha : allPick st hv name) : srt (outP st hv name) := by
  unfold outP srt
  rw [List.pairwise_map]
  have h1 : (([1, 2, 3, 4] : List Int).filter (reachB st hv name)).Pairwise (· < ·) := List.Pairwise.filter _ (by decide)
  refine List.Pairwise.imp_of_mem ?_ h1
  intro a b h2 h3 h4
  have key : ∀ n, n ∈ ([1, 2, 3, 4] : List Int).filter (reachB st hv name) → (pickP st hv n).1.name = n := fun n hn => by
    have h3 := reachB_iff.1 (List.mem_filter.1 hn).2
    exact (pick_true (p := (pickP st hv n).1) (Prod.ext rfl (ha n h3))).1
  rw [key a h2, key b h3]; exact h4
theorem outP_len (st hv : List TPkg) (name : Int) : (outP st hv name).length ≤ 4 := by
  unfold outP
  rw [List.length_map]
  exact List.length_filter_le _ _
/-- What a result is made of. -/
theorem forP_mem {st hv : List TPkg} {name : Int} {r : List TPkg} {ok : Bool} (h : forP st hv name = (r, ok)) : r.length ≤ 4 ∧ ∀ p, p ∈ r → p ∈ st ∨ p ∈ hv := by
  by_cases hc : allPick st hv name ∧ planOk (outP st hv name) = true
  · rw [forP_yes hc.1 hc.2] at h
    obtain ⟨rfl, -⟩ := Prod.mk.inj h
    refine ⟨outP_len _ _ _, fun p hp => ?_⟩
    unfold outP at hp
    obtain ⟨n, h1, rfl⟩ := List.mem_map.1 hp
    have h3 := reachB_iff.1 (List.mem_filter.1 h1).2
    exact (pick_true (p := (pickP st hv n).1) (Prod.ext rfl (hc.1 n h3))).2
  · rw [forP_no hc] at h
    obtain ⟨rfl, -⟩ := Prod.mk.inj h
    exact ⟨by simp, fun p hp => by cases hp⟩

/-- What holds while packages are gathered. -/
structure ForInv (st hv : List TPkg) (name : Int) (w : List Bool) (out : List TPkg) : Prop where
  len : w.length = 5
  sound : ∀ x : Int, 1 ≤ x → x ≤ 4 → nth w x.toNat = true → Reach st hv name x
  nm : nth w name.toNat = true
  hvs : ∀ p, p ∈ hv → nth w p.name.toNat = true
  deps : ∀ p, p ∈ out → ∀ d, d ∈ p.deps → nth w d.name.toNat = true
  outp : ∀ p, p ∈ out → pickP st hv p.name = (p, true) ∧ (1 ≤ p.name ∧ p.name ≤ 4) ∧ Reach st hv name p.name
  so : srt out
theorem ForInv.le {st hv : List TPkg} {name : Int} {w : List Bool} {out : List TPkg} (h : ForInv st hv name w out) : out.length ≤ 4 := by
  have := srt_len (lo := 1) h.so (fun p hp => (h.outp p hp).2.1) (by omega)
  omega
theorem ForInv.all {st hv : List TPkg} {name : Int} {w : List Bool} {out : List TPkg} (h : ForInv st hv name w out) (hn : 1 ≤ name ∧ name ≤ 4) (ht : tames st) (ht2 : tames hv) (hd : ∀ m : Int, 1 ≤ m → m < 5 → nth w m.toNat = true → ∃ p, p ∈ out ∧ p.name = m) :
    allPick st hv name ∧ out = outP st hv name := by
  have key : ∀ n, Reach st hv name n → nth w n.toNat = true := by
    intro n hr
    induction hr with
    | this => exact h.nm
    | was hp => exact h.hvs _ hp
    | need h1 h2 h3 ih =>
      have hb := reach_in hn ht ht2 h1
      obtain ⟨q, hq, e⟩ := hd _ hb.1 (by omega) ih
      have h4 := (h.outp q hq).1
      rw [e, h2] at h4
      obtain ⟨rfl, -⟩ := Prod.mk.inj h4
      exact h.deps _ hq _ h3
  have hin : ∀ n, Reach st hv name n → ∃ p, p ∈ out ∧ p.name = n := fun n hr => by
    have hb := reach_in hn ht ht2 hr
    exact hd n hb.1 (by omega) (key n hr)
  have ha : allPick st hv name := fun n hr => by
    obtain ⟨p, hp, rfl⟩ := hin n hr
    rw [(h.outp p hp).1]
  refine ⟨ha, srt_ext h.so (outP_srt ha) fun x => ?_⟩
  rw [outP_mem hn ht ht2 ha]
  constructor
  · intro hx; exact ⟨(h.outp x hx).2.2, (h.outp x hx).1⟩
  · rintro ⟨h1, h2⟩
    obtain ⟨p, hp, e⟩ := hin _ h1
    have h4 := (h.outp p hp).1
    rw [e, h2] at h4
    obtain ⟨rfl, -⟩ := Prod.mk.inj h4
    exact hp

theorem nth_set {α : Type} [Inhabited α] (l : List α) (i j : Nat) (a : α) : nth (l.set i a) j = if i = j ∧ i < l.length then a else nth l j := by
  unfold nth
  simp only [List.getD_eq_getElem?_getD, List.getElem?_set]
  by_cases e : i = j
  · subst e
    by_cases h : i < l.length
    · simp [h]
    · simp [h]
  · simp [e]

def QFor (st hv : List TPkg) (name : Int) : SV → List SO → Prop := fun x os => ∃ r ok, forP st hv name = (r, ok) ∧ x = .tup [.osl 0, bB ok] ∧ os = [.arr false 4 (r.map ePkg)]
abbrev osF (w : List Bool) (out : List TPkg) (p : TPkg) : List SO := [.arr false 1 (w.map bB), .frz 4 (out.map ePkg), .frz 2 (p.files.map eFile), .frz 2 (p.deps.map eDep), .arr false 2 [], .arr false 2 [], .box [iI p.name, iI p.ver, .osl 2, .osl 3], .arr false 4 ((withP out p).map ePkg)]
theorem s_l13For_L17 (st hv out : List TPkg) (p : TPkg) (m9 : Nat → Nat) {Q : SV → List SO → Prop} (w0 : List Bool) (hd : depsIn p.deps) (hdl : p.deps.length ≤ 2000000)
    (hq : ∀ w : List Bool, w.length = 5 → (∀ x : Nat, nth w0 x = true → nth w x = true) → (∀ d, d ∈ p.deps → nth w d.name.toNat = true) → (∀ x : Nat, nth w x = true → nth w0 x = true ∨ ∃ d, d ∈ p.deps ∧ d.name.toNat = x) →
      Ev (fun n => J99_10 (callF prg n) (n + 1) 0 (m9 n) (.sl 4 (st.map ePkg)) (.sl 4 (hv.map ePkg)) (.osl 0) (.osl 7) (iI 0) (osF w out p)) Q) :
    ∀ j, j ≤ p.deps.length → ∀ w : List Bool, w.length = 5 → (∀ x : Nat, nth w0 x = true → nth w x = true) → (∀ k, k < j → nth w (nth p.deps k).name.toNat = true) → (∀ x : Nat, nth w x = true → nth w0 x = true ∨ ∃ d, d ∈ p.deps ∧ d.name.toNat = x) → ∀ (k : Int) (c : Nat), k = j →
      Ev (fun n => L99_17 (callF prg n) (n + 1) 0 (m9 n) (n + 1 - c) (.sl 4 (st.map ePkg)) (.sl 4 (hv.map ePkg)) (.osl 0) (.osl 7) (.ptr 6 0) (iI k) (osF w out p)) Q := by
  refine up_ind ?_
  intro j hj ih w hw h1 h2 h3 k c hk
  subst hk
  have hdj : j < p.deps.length → 1 ≤ (nth p.deps j).name ∧ (nth p.deps j).name ≤ 4 := fun h => hd _ (nth_mem h)
  (refine UL99_17 ?_; unfold LB99_17)
  repeat' (first | ((with_reducible refine eB ?_); first | ((with_reducible refine ev_lss ?_ ?_) <;> intro h <;> try (exfalso; omega)) | ((with_reducible refine ev_add ?_ ?_); · omega) | refine ev_bd rfl ?_ | refine ev_bd0 rfl ?_) | ((with_reducible refine eL ?_); first | ((with_reducible refine ev_lenm ?_ ?_); · rfl) | refine ev_lenom rfl rfl ?_ | refine ev_lenfm rfl rfl ?_ | refine ev_lenoc rfl rfl rfl ?_ | refine ev_lenc rfl rfl ?_ | refine ev_leno rfl rfl ?_ | refine ev_slen rfl ?_ | refine ev_bd rfl ?_ | refine ev_bd0 rfl ?_) | ((with_reducible refine eI ?_); first | ((with_reducible refine ev_idxn ?_ ?_ ?_); (· rfl); · omega) | (refine ev_idxon rfl rfl ?_ ?_; (· first | omega | (simp only [List.length_cons, List.length_nil, List.length_map, List.length_append]; omega))) | (refine ev_idxfn rfl rfl ?_ ?_; (focus omega)) | ((with_reducible refine ev_idx ?_ ?_ ?_); (· rfl); · omega) | (refine ev_idxo rfl rfl ?_ ?_; (· first | omega | (simp only [List.length_cons, List.length_nil, List.length_map, List.length_append]; omega))) | (refine ev_idxf rfl rfl ?_ ?_; (focus omega)) | refine ev_bd rfl ?_ | refine ev_bd0 rfl ?_) | ((with_reducible refine eK ?_); first | (with_reducible first | refine ev_ct ?_ | refine ev_cf ?_) | ((with_reducible refine ev_cond ?_ ?_) <;> intro h)) | ((with_reducible refine eO ?_); first | refine ev_bd rfl ?_ | (refine ev_bdB rfl ?_ ?_ <;> intro h <;> try (exfalso; simp_all; done)) | refine ev_bd0 rfl ?_ | (refine ev_ldm rfl ?_ rfl ?_; (focus omega)) | (refine ev_ldmB rfl ?_ rfl ?_ ?_; (focus omega); (all_goals intro h))) | ((with_reducible refine eD ?_); first | refine ev_bd rfl ?_ | refine ev_bd0 rfl ?_ | ( (refine ev_sto (f := bB) (a := true) rfl rfl rfl rfl rfl rfl rfl rfl ?_ rfl ?_; (focus omega)))) | ((with_reducible refine ih ?_ _ ?_ ?_ ?_ ?_ _ _ ?_) <;> (first | omega | assumption | ((first | (rw [List.length_set]; exact hw) | (intro x hx; rw [nth_set]; split; rfl; exact h1 x hx) | (intro k hk; rw [nth_set]; split; rfl; rename_i hne; by_cases e : k = j; subst e; exact absurd ⟨rfl, by omega⟩ hne; exact h2 k (by omega)) | (intro x hx; rw [nth_set] at hx; split at hx; rename_i he; exact .inr ⟨_, nth_mem (l := p.deps) (k := j) (by omega), he.1⟩; exact h3 x hx))) | (simp only [*, List.map_append, List.length_append, List.length_cons, List.length_nil, List.map_cons, List.map_nil]; done) | (simp_all; done) | (simp_all; omega))) | ( exact hq w hw h1 (fun d hd2 => by (obtain ⟨k, hk, rfl⟩ := mem_nth hd2; exact h2 k (by omega))) h3) | refine ev_ret rfl ?_)
theorem s_l13For_L9 (st hv : List TPkg) (hs : st.length ≤ 2000000) (hp0 : PL st) (hs2 : hv.length ≤ 2000000) (hp2 : PL hv) (name : Int) (hn : 1 ≤ name ∧ name ≤ 4) (ht : tames st) (ht2 : tames hv) (hpo : ∀ r : List TPkg, (∀ p, p ∈ r → p ∈ st ∨ p ∈ hv) → PL r) : ∀ (μ : Nat) (w : List Bool) (out : List TPkg) (n : Int) (c : Nat), ForInv st hv name w out → 1 ≤ n → n ≤ 5 → (∀ m : Int, 1 ≤ m → m < n → nth w m.toNat = true → ∃ p, p ∈ out ∧ p.name = m) → (4 - out.length) * 6 + (5 - n).toNat < μ →
    Ev (fun n' => G99_9 (callF prg n') (n' + 1) 0 (n' + 1 - c) [.sl 4 (st.map ePkg), .sl 4 (hv.map ePkg), .osl 0, .osl 1, iI n] [.arr false 1 (w.map bB), .arr false 4 (out.map ePkg)]) (QFor st hv name) := by
  intro μ
  induction μ with
  | zero => intro w out n c _ _ _ _ hμ; omega
  | succ μ ih =>
  intro w out n c hI hn1 hn5 hdone hμ
  have hlen := hI.le
  have hw := hI.len
  have hpo' : PL out := hpo out fun p hp => (pick_true (hI.outp p hp).1).2
  have hgo : nth w n.toNat = false ∨ (newestP out n).2 = true → n ≤ 4 → ∀ m : Int, 1 ≤ m → m < n + 1 → nth w m.toNat = true → ∃ p, p ∈ out ∧ p.name = m := fun h h4 m hm1 hm2 hm => by
    by_cases e : m = n
    · subst e
      rcases h with h | h
      · rw [h] at hm; cases hm
      · obtain ⟨e1, e2, -⟩ := newest_true (s := out) (name := m) (p := (newestP out m).1) (Prod.ext rfl h)
        exact ⟨_, e1, e2⟩
    · exact hdone m hm1 (by omega) hm
  have hnext : n ≤ 4 → nth w n.toNat = true → (newestP out n).2 = false → ∀ p, pickP st hv n = (p, true) → ∀ w' : List Bool, w'.length = 5 → (∀ x : Nat, nth w x = true → nth w' x = true) → (∀ d, d ∈ p.deps → nth w' d.name.toNat = true) → (∀ x : Nat, nth w' x = true → nth w x = true ∨ ∃ d, d ∈ p.deps ∧ d.name.toNat = x) →
      ∀ c, Ev (fun n => J99_10 (callF prg n) (n + 1) 0 (n + 1 - c) (.sl 4 (st.map ePkg)) (.sl 4 (hv.map ePkg)) (.osl 0) (.osl 7) (iI 0) (osF w' out p)) (QFor st hv name) := by
    intro hn4 hwn hnew p hp w' hw' h1 h2 h3 c
    have hno := (newest_false (s := out) (name := n) (p := (newestP out n).1) (Prod.ext rfl hnew)).2
    obtain ⟨hpn, hpm⟩ := pick_true hp
    have hno' : ∀ x, x ∈ out → x.name ≠ p.name := fun x hx => by rw [hpn]; exact hno x hx
    have hr : Reach st hv name n := hI.sound n hn1 hn4 hwn
    have hpt : depsIn p.deps := by
      rcases hpm with e | e
      · exact (ht p e).2
      · exact (ht2 p e).2
    have hI' : ForInv st hv name w' (withP out p) := by
      refine ⟨hw', fun x hx1 hx2 hx => ?_, h1 _ hI.nm, fun q hq => h1 _ (hI.hvs q hq), fun q hq d hd => ?_, fun q hq => ?_, srt_with hI.so hno'⟩
      · rcases h3 _ hx with e | ⟨d, hd, e⟩
        · exact hI.sound x hx1 hx2 e
        · have := hpt d hd
          obtain rfl : d.name = x := by omega
          exact .need hr hp hd
      · rcases (mem_with hno' q).1 hq with e | rfl
        · exact h1 _ (hI.deps q e d hd)
        · exact h2 d hd
      · rcases (mem_with hno' q).1 hq with e | rfl
        · exact hI.outp q e
        · rw [hpn]; exact ⟨hp, ⟨hn1, hn4⟩, hr⟩
    have hl' := len_with hno'
    have hle' := hI'.le
    repeat' (first | ((with_reducible refine eB ?_); first | ((with_reducible refine ev_add ?_ ?_); · omega) | refine ev_bd rfl ?_ | refine ev_bd0 rfl ?_) | ((with_reducible refine eD ?_); first | refine ev_bd rfl ?_ | refine ev_bd0 rfl ?_) | ((with_reducible refine eH ?_); first | refine ev_gcB rfl ?_) | ((with_reducible refine UJ99_10 ?_); (unfold JB99_10)) | (with_reducible first | refine UL99_9 ?_ | refine VL99_9 ?_) | ( (refine ih w' (withP out p) _ _ hI' ?_ ?_ ?_ ?_; (focus omega); (focus omega); (focus (intro m hm1 hm2; exfalso; omega)); (focus omega))) | refine ev_ret rfl ?_)
  (refine UG99_9 _ ?_; unfold GB99_9)
  repeat' (first | ((with_reducible refine eG ?_); first | (with_reducible first | refine ev_gtt ?_ | refine ev_gff ?_ | refine ev_gtf ?_ | refine ev_gft ?_ | refine ev_gu ?_) | refine ev_bd rfl ?_ | refine ev_bd0 rfl ?_ | ((with_reducible refine ev_gB ?_ ?_) <;> intro h)) | ((with_reducible refine eB ?_); first | ((with_reducible refine ev_leq ?_ ?_) <;> intro h <;> try (exfalso; omega)) | ((with_reducible refine ev_add ?_ ?_); · omega) | refine ev_bd rfl ?_ | refine ev_bd0 rfl ?_) | ((with_reducible refine eI ?_); first | ((with_reducible refine ev_idxn ?_ ?_ ?_); (· rfl); · omega) | (refine ev_idxon rfl rfl ?_ ?_; (· first | omega | (simp only [List.length_cons, List.length_nil, List.length_map, List.length_append]; omega))) | (refine ev_idxfn rfl rfl ?_ ?_; (focus omega)) | ((with_reducible refine ev_idx ?_ ?_ ?_); (· rfl); · omega) | (refine ev_idxo rfl rfl ?_ ?_; (· first | omega | (simp only [List.length_cons, List.length_nil, List.length_map, List.length_append]; omega))) | (refine ev_idxf rfl rfl ?_ ?_; (focus omega)) | refine ev_bd rfl ?_ | refine ev_bd0 rfl ?_) | ((with_reducible refine eC ?_); first | ((refine ev_call (s_l13Is out (by omega) hpo' n) rfl rfl ?_ rfl ?_); (focus first | exact .inl rfl | exact .inr rfl | (refine .inr ?_; simp [flagC, ownF, hasSl3, hasSl1, SO.hasSl, List.all_map, flatSV, SV.cells, Function.comp_def]; done))) | ((refine ev_callE (s_l13Pick st hv hs hp0 hs2 hp2 n) rfl rfl ?_); ((rintro _ _ ⟨p, ok, h1, rfl, rfl⟩) <;> ((rcases ok with _ | _)) <;> (first | (refine ev_post ?_ rfl ?_; (focus first | exact .inl rfl | exact .inr rfl | (refine .inr ?_; simp [flagC, ownF, hasSl3, hasSl1, SO.hasSl, List.all_map, flatSV, SV.cells, Function.comp_def]; done))) | (refine ev_postF ?_ rfl ?_; (focus first | rfl | (simp [flagC, ownF, hasSl3, hasSl1, SO.hasSl, List.all_map, flatSV, SV.cells, Function.comp_def]; done)))))) | ((refine ev_callF (s_l12With out p (by omega)) rfl rfl ?_ rfl ?_); (· first | rfl | (simp [flagC, ownF, hasSl3, hasSl1, SO.hasSl, List.all_map, flatSV, SV.cells, Function.comp_def]; done))) | ((refine ev_callB (s_PlanOkS out (by omega) hpo') rfl rfl ?_ rfl rfl ?_ ?_); (focus first | exact .inl rfl | exact .inr rfl | (refine .inr ?_; simp [flagC, ownF, hasSl3, hasSl1, SO.hasSl, List.all_map, flatSV, SV.cells, Function.comp_def]; done)); (all_goals (intro h)); (all_goals (try (exfalso; simp_all; done))))) | ((with_reducible refine eK ?_); first | (with_reducible first | refine ev_ct ?_ | refine ev_cf ?_) | ((with_reducible refine ev_cond ?_ ?_) <;> intro h)) | ((with_reducible refine eO ?_); first | refine ev_bd rfl ?_ | (refine ev_bdB rfl ?_ ?_ <;> intro h <;> try (exfalso; simp_all; done)) | refine ev_bd0 rfl ?_ | (refine ev_ldm rfl ?_ rfl ?_; (focus omega)) | (refine ev_ldmB rfl ?_ rfl ?_ ?_; (focus omega); (all_goals intro h)) | (refine ev_ldz rfl rfl rfl ?_ ?_ ?_; (· simp); (· first | omega | (simp only [List.length_cons, List.length_nil, List.length_map, List.length_append]; omega)); intro w)) | ((with_reducible refine eD ?_); first | refine ev_bd rfl ?_ | refine ev_bd0 rfl ?_ | ((with_reducible refine ev_pickB ?_ ?_) <;> intro h)) | ((with_reducible refine eH ?_); first | refine ev_gcB rfl ?_) | ((with_reducible refine UJ99_10 ?_); (unfold JB99_10)) | (with_reducible first | refine UL99_9 ?_ | refine VL99_9 ?_) | ( (refine ih w out _ _ hI ?_ ?_ (hgo ?_ ?_) ?_; (focus omega); (focus omega); (focus first | exact .inl h | exact .inr h); (focus omega); (focus omega))) | ( exact s_l13For_L17 st hv out p _ w ((pick_true h1).2.elim (fun e => (ht p e).2) (fun e => (ht2 p e).2)) ((pick_true h1).2.elim (fun e => by (obtain ⟨k, hk, rfl⟩ := mem_nth e; exact (hp0 k).2)) (fun e => by (obtain ⟨k, hk, rfl⟩ := mem_nth e; exact (hp2 k).2))) (fun w' a1 a2 a3 a4 => hnext (by omega) (by assumption) (by assumption) p h1 w' a1 a2 a3 a4 _) 0 (by omega) w hw (fun x hx => hx) (fun k hk => by omega) (fun x hx => .inl hx) _ 0 rfl) | refine ev_ret rfl ?_)
  · refine ⟨[], false, forP_no fun hc => ?_, rfl, rfl⟩
    have h8 := hc.1 n (hI.sound n hn1 (by omega) (by assumption))
    rw [h1] at h8; cases h8
  all_goals (obtain ⟨ha, he⟩ := hI.all hn ht ht2 (by rw [show (5 : Int) = n by omega]; exact hdone))
  · exact ⟨_, _, forP_yes ha (he ▸ h), rfl, by rw [he]⟩
  · exact ⟨[], false, forP_no (fun hc => by (rw [← he, h] at hc); exact Bool.noConfusion hc.2), rfl, rfl⟩
theorem s_l13For_L4 (st hv : List TPkg) (hs : st.length ≤ 2000000) (hp0 : PL st) (hs2 : hv.length ≤ 2000000) (hp2 : PL hv) (name : Int) (hn : 1 ≤ name ∧ name ≤ 4) (ht : tames st) (ht2 : tames hv) (hpo : ∀ r : List TPkg, (∀ p, p ∈ r → p ∈ st ∨ p ∈ hv) → PL r) : ∀ i, i ≤ hv.length → ∀ w : List Bool, w.length = 5 → nth w name.toNat = true → (∀ j, j < i → nth w (nth hv j).name.toNat = true) → (∀ x : Int, 1 ≤ x → x ≤ 4 → nth w x.toNat = true → Reach st hv name x) → ∀ (k : Int) (c : Nat), k = i →
    Ev (fun n => L99_4 (callF prg n) (n + 1) 0 (n + 1 - c) (.sl 4 (st.map ePkg)) (.sl 4 (hv.map ePkg)) (.osl 1) (iI k) [.arr false 4 [], .arr false 1 (w.map bB)]) (QFor st hv name) := by
  refine up_ind ?_
  intro i hi ih w hw h1 h2 h3 k c hk
  subst hk
  have hti : i < hv.length → 1 ≤ (nth hv i).name ∧ (nth hv i).name ≤ 4 := fun h => (ht2 _ (nth_mem h)).1
  have hst : i < hv.length → (w.set (nth hv i).name.toNat true).length = 5 ∧ nth (w.set (nth hv i).name.toNat true) name.toNat = true ∧ (∀ j, j < i + 1 → nth (w.set (nth hv i).name.toNat true) (nth hv j).name.toNat = true) ∧ (∀ x : Int, 1 ≤ x → x ≤ 4 → nth (w.set (nth hv i).name.toNat true) x.toNat = true → Reach st hv name x) := fun hi2 => by
    have := hti hi2
    refine ⟨by rw [List.length_set]; exact hw, ?_, fun j hj => ?_, fun x hx1 hx2 hx => ?_⟩
    · rw [nth_set]; split
      · rfl
      · exact h1
    · rw [nth_set]; split
      · rfl
      · rename_i hne
        by_cases e : j = i
        · subst e; exact absurd ⟨rfl, by omega⟩ hne
        · exact h2 j (by omega)
    · rw [nth_set] at hx; split at hx
      · rename_i he
        obtain rfl : x = (nth hv i).name := by omega
        exact .was (nth_mem hi2)
      · exact h3 x hx1 hx2 hx
  (refine UL99_4 ?_; unfold LB99_4)
  repeat' (first | ((with_reducible refine eB ?_); first | ((with_reducible refine ev_lss ?_ ?_) <;> intro h <;> try (exfalso; omega)) | ((with_reducible refine ev_add ?_ ?_); · omega) | refine ev_bd rfl ?_ | refine ev_bd0 rfl ?_) | ((with_reducible refine eL ?_); first | ((with_reducible refine ev_lenm ?_ ?_); · rfl) | refine ev_lenom rfl rfl ?_ | refine ev_lenfm rfl rfl ?_ | refine ev_lenoc rfl rfl rfl ?_ | refine ev_lenc rfl rfl ?_ | refine ev_leno rfl rfl ?_ | refine ev_slen rfl ?_ | refine ev_bd rfl ?_ | refine ev_bd0 rfl ?_) | ((with_reducible refine eI ?_); first | ((with_reducible refine ev_idxn ?_ ?_ ?_); (· rfl); · omega) | (refine ev_idxon rfl rfl ?_ ?_; (· first | omega | (simp only [List.length_cons, List.length_nil, List.length_map, List.length_append]; omega))) | (refine ev_idxfn rfl rfl ?_ ?_; (focus omega)) | ((with_reducible refine ev_idx ?_ ?_ ?_); (· rfl); · omega) | (refine ev_idxo rfl rfl ?_ ?_; (· first | omega | (simp only [List.length_cons, List.length_nil, List.length_map, List.length_append]; omega))) | (refine ev_idxf rfl rfl ?_ ?_; (focus omega)) | refine ev_bd rfl ?_ | refine ev_bd0 rfl ?_) | ((with_reducible refine eK ?_); first | (with_reducible first | refine ev_ct ?_ | refine ev_cf ?_) | ((with_reducible refine ev_cond ?_ ?_) <;> intro h)) | ((with_reducible refine eO ?_); first | refine ev_bd rfl ?_ | (refine ev_bdB rfl ?_ ?_ <;> intro h <;> try (exfalso; simp_all; done)) | refine ev_bd0 rfl ?_ | (refine ev_ldm rfl ?_ rfl ?_; (focus omega)) | (refine ev_ldmB rfl ?_ rfl ?_ ?_; (focus omega); (all_goals intro h)) | (refine ev_ldz rfl rfl rfl ?_ ?_ ?_; (· simp); (· first | omega | (simp only [List.length_cons, List.length_nil, List.length_map, List.length_append]; omega)); intro w)) | ((with_reducible refine eD ?_); first | refine ev_bd rfl ?_ | refine ev_bd0 rfl ?_ | ( (refine ev_sto (f := bB) (a := true) rfl rfl rfl rfl rfl rfl rfl rfl ?_ rfl ?_; (focus omega)))) | ((with_reducible refine eH ?_); first | refine ev_gcB rfl ?_) | (with_reducible first | refine UL99_9 ?_ | refine VL99_9 ?_) | ( exact ih (by omega) _ (hst (by omega)).1 (hst (by omega)).2.1 (hst (by omega)).2.2.1 (hst (by omega)).2.2.2 _ _ rfl) | ( exact s_l13For_L9 st hv hs hp0 hs2 hp2 name hn ht ht2 hpo 1000 w [] 1 _ ⟨hw, h3, h1, fun p hp => by (obtain ⟨j, hj, rfl⟩ := mem_nth hp; exact h2 j (by omega)), (fun p hp => by cases hp), (fun p hp => by cases hp), List.Pairwise.nil⟩ (by omega) (by omega) (fun m a b => by omega) (by simp)) | refine ev_ret rfl ?_)
theorem s_l13For (st hv : List TPkg) (hs : st.length ≤ 2000000) (hp0 : PL st) (hs2 : hv.length ≤ 2000000) (hp2 : PL hv) (name : Int) (hn : 1 ≤ name ∧ name ≤ 4) (ht : tames st) (ht2 : tames hv) : Ev (fun n => callF prg n 99 [.sl 4 (st.map ePkg), .sl 4 (hv.map ePkg), iI name] []) (QFor st hv name) := by
  have hpo : ∀ r : List TPkg, (∀ p, p ∈ r → p ∈ st ∨ p ∈ hv) → PL r := fun r h i => by
    by_cases hi : i < r.length
    · rcases h _ (nth_mem hi) with e | e
      · obtain ⟨k, hk, e2⟩ := mem_nth e; rw [← e2]; exact hp0 k
      · obtain ⟨k, hk, e2⟩ := mem_nth e; rw [← e2]; exact hp2 k
    · have : nth r i = default := by
        unfold nth
        rw [List.getD_eq_getElem?_getD, List.getElem?_eq_none (by omega)]; rfl
      rw [this]
      exact ⟨by show ([] : List TFile).length ≤ _; simp, by show ([] : List TDep).length ≤ _; simp⟩
  have hini : ∀ x : Int, 1 ≤ x → x ≤ 4 → nth (([false, false, false, false, false] : List Bool).set name.toNat true) x.toNat = true → Reach st hv name x := fun x hx1 hx2 hx => by
    rw [nth_set] at hx
    split at hx
    · rename_i he
      obtain rfl : x = name := by omega
      exact .this
    · obtain rfl | rfl | rfl | rfl : x = 1 ∨ x = 2 ∨ x = 3 ∨ x = 4 := by omega
      all_goals cases hx
  (refine U99 (nl := 0) rfl ?_; unfold B99)
  repeat' (first | ((with_reducible refine eI ?_); first | ((with_reducible refine ev_idxn ?_ ?_ ?_); (· rfl); · omega) | (refine ev_idxon rfl rfl ?_ ?_; (· first | omega | (simp only [List.length_cons, List.length_nil, List.length_map, List.length_append]; omega))) | (refine ev_idxfn rfl rfl ?_ ?_; (focus omega)) | ((with_reducible refine ev_idx ?_ ?_ ?_); (· rfl); · omega) | ( (refine ev_idxo rfl rfl ?_ ?_; (focus (show _ ∧ _ < (5 : Int); omega)))) | (refine ev_idxo rfl rfl ?_ ?_; (· first | omega | (simp only [List.length_cons, List.length_nil, List.length_map, List.length_append]; omega))) | (refine ev_idxf rfl rfl ?_ ?_; (focus omega)) | refine ev_bd rfl ?_ | refine ev_bd0 rfl ?_) | ((with_reducible refine eD ?_); first | refine ev_bd rfl ?_ | refine ev_bd0 rfl ?_ | ( (refine ev_sto (f := bB) (l := [false, false, false, false, false]) (a := true) rfl rfl rfl rfl rfl rfl rfl rfl ?_ rfl ?_; (focus (show _ < 5; omega))))) | ( exact s_l13For_L4 st hv hs hp0 hs2 hp2 name hn ht ht2 hpo 0 (by omega) _ (by simp) (by (rw [nth_set]; rw [if_pos ⟨rfl, by show _ < 5; omega⟩])) (fun j hj => by omega) hini 0 0 rfl) | refine ev_ret rfl ?_)

end Go.Proofs.Ytgeolifkmiglgaa
