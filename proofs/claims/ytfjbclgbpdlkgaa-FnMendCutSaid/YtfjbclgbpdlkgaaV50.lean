/- The evaluator S and what it says of functions: V25, V26, V27, V28, V44, V50. -/
import Derived.Test.YtfjbclgbpdlkgaaV24
import Derived.KernelRfl
import Derived.Test.YtfjbclgbpdlkgaaV7
/- What is to be in for a name to be: what the reference gives. -/
namespace Go.Proofs.Ytfjbclgbpdlkgaa
open Go
set_option linter.unusedVariables false
set_option linter.unusedSimpArgs false
set_option maxHeartbeats 4000000
def xV (st hv : List TPkg) (n : Int) : TPkg × Bool :=
  if (kj st n).2 = true ∧ ((kj hv n).2 = false ∨ (kj hv n).1.ver < (kj st n).1.ver) then ((kj st n).1, true) else kj hv n
theorem qlk (s : List TPkg) (hs : s.length ≤ 2000000) (hp0 : PL s) (name : Int) : Ex (fun m => qd prg m 105 [.sl 4 (s.map zh), iI name] []) (bB (kj s name).2) [] := by
  refine zz.1 ?_
  (refine U105 (nl := 0) rfl ?_; unfold B105)
  repeat' (first|((with_reducible refine eC ?_);first|((refine zk (yU s hs hp0 name) rfl rfl ?_);((rintro _ _ ⟨p,ok,h1,rfl,rfl⟩)<;>(first|(refine zF ?_ rfl ?_;(focus first|exact .inl rfl|exact .inr rfl|(refine .inr ?_;simp [qo,qm,qh,qg,SO.hasSl,List.all_map,qi,SV.cells,Function.comp_def];done)))|(refine zl ?_ rfl ?_;(focus first|rfl|(simp [qo,qm,qh,qg,SO.hasSl,List.all_map,qi,SV.cells,Function.comp_def];done)))))))|((with_reducible refine eD ?_);first|refine qe rfl ?_|refine qb rfl ?_)|refine qq rfl ?_)
  all_goals exact ⟨congrArg bB (by rw [h1]), rfl⟩
theorem qfa (st hv : List TPkg) (hs : st.length ≤ 2000000) (hp0 : PL st) (hs2 : hv.length ≤ 2000000) (hp2 : PL hv) (name : Int) : Ev (fun m => qd prg m 106 [.sl 4 (st.map zh), .sl 4 (hv.map zh), iI name] []) (QNew (xV st hv name)) := by
  (refine U106 (nl := 0) rfl ?_; unfold B106)
  repeat' (first|((with_reducible refine eG ?_);first|(with_reducible first|refine qX ?_|refine qY ?_|refine qZ ?_|refine q4 ?_|refine zm ?_)|refine qe rfl ?_|refine qb rfl ?_|((with_reducible refine zn ?_ ?_)<;>intro h))|((with_reducible refine eB ?_);first|((with_reducible refine ka ?_ ?_)<;>intro h<;>try (exfalso;omega))|refine qe rfl ?_|refine qb rfl ?_)|((with_reducible refine eC ?_);first|((refine zk (yU st hs hp0 name) rfl rfl ?_);((rintro _ _ ⟨p,ok,h1,rfl,rfl⟩)<;>((rcases ok with _|_))<;>(first|(refine zF ?_ rfl ?_;(focus first|exact .inl rfl|exact .inr rfl|(refine .inr ?_;simp [qo,qm,qh,qg,SO.hasSl,List.all_map,qi,SV.cells,Function.comp_def];done)))|(refine zl ?_ rfl ?_;(focus first|rfl|(simp [qo,qm,qh,qg,SO.hasSl,List.all_map,qi,SV.cells,Function.comp_def];done))))))|((refine zk (yU hv hs2 hp2 name) rfl rfl ?_);((rintro _ _ ⟨p2,ok2,h2,rfl,rfl⟩)<;>((rcases ok2 with _|_))<;>(first|(refine zF ?_ rfl ?_;(focus first|exact .inl rfl|exact .inr rfl|(refine .inr ?_;simp [qo,qm,qh,qg,SO.hasSl,List.all_map,qi,SV.cells,Function.comp_def];done)))|(refine zl ?_ rfl ?_;(focus first|rfl|(simp [qo,qm,qh,qg,SO.hasSl,List.all_map,qi,SV.cells,Function.comp_def];done)))))))|((with_reducible refine eK ?_);first|(with_reducible first|refine qT ?_|refine qU ?_)|((with_reducible refine qr ?_ ?_)<;>intro h))|((with_reducible refine eO ?_);first|refine qe rfl ?_|(refine qB rfl ?_ ?_<;>intro h<;>try (exfalso;simp_all;done))|refine qb rfl ?_|(refine qF rfl ?_ rfl ?_;(focus omega))|(refine qt rfl ?_ rfl ?_ ?_;(focus omega);(all_goals intro h)))|((with_reducible refine eD ?_);first|refine qe rfl ?_|refine qb rfl ?_|((with_reducible refine qC ?_ ?_)<;>intro h))|(with_reducible refine ku ?_ ?_)|refine qq rfl ?_)
  all_goals (refine ⟨_, _, ?_, rfl, rfl⟩; simp [xV, h1, h2, *])
theorem wH {st hv : List TPkg} {n : Int} {p : TPkg} (h : xV st hv n = (p, true)) : p.name = n ∧ (p ∈ st ∨ p ∈ hv) := by
  unfold xV at h
  split at h
  · rename_i h0
    obtain ⟨rfl, -⟩ := Prod.mk.inj h
    obtain ⟨h1, h2, -⟩ := w5 (s := st) (name := n) (p := (kj st n).1) (Prod.ext rfl h0.1)
    exact ⟨h2, .inl h1⟩
  · obtain ⟨h1, h2, -⟩ := w5 h
    exact ⟨h2, .inr h1⟩
inductive Reach (st hv : List TPkg) (name : Int) : Int → Prop
  | this : Reach st hv name name
  | was {p : TPkg} : p ∈ hv → Reach st hv name p.name
  | need {n : Int} {p : TPkg} {d : TDep} : Reach st hv name n → xV st hv n = (p, true) → d ∈ p.deps → Reach st hv name d.name
noncomputable def YB (st hv : List TPkg) (name n : Int) : Bool := @decide (Reach st hv name n) (Classical.propDecidable _)
theorem xB {st hv : List TPkg} {name n : Int} : YB st hv name n = true ↔ Reach st hv name n := by
  unfold YB; exact @decide_eq_true_iff _ (Classical.propDecidable _)
def xq (st hv : List TPkg) (name : Int) : Prop := ∀ n, Reach st hv name n → (xV st hv n).2 = true
noncomputable def qah (st hv : List TPkg) (name : Int) : List TPkg := (([1, 2, 3, 4] : List Int).filter (YB st hv name)).map fun n => (xV st hv n).1
open Classical in
noncomputable def qfS (st hv : List TPkg) (name : Int) : List TPkg × Bool := if xq st hv name ∧ zo (qah st hv name) = true then (qah st hv name, true) else ([], false)
theorem Jb {st hv : List TPkg} {name : Int} (h : ¬ (xq st hv name ∧ zo (qah st hv name) = true)) : qfS st hv name = ([], false) := by unfold qfS; rw [if_neg h]
theorem qai {st hv : List TPkg} {name : Int} (h1 : xq st hv name) (h2 : zo (qah st hv name) = true) : qfS st hv name = (qah st hv name, true) := by unfold qfS; rw [if_pos ⟨h1, h2⟩]
def srt (l : List TPkg) : Prop := l.Pairwise fun a b => a.name < b.name
theorem qfb : ∀ {l m : List TPkg}, srt l → srt m → (∀ x, x ∈ l ↔ x ∈ m) → l = m
  | [], [], _, _, _ => rfl
  | [], y :: m, _, _, h => by have := (h y).2 (by simp); cases this
  | x :: l, [], _, _, h => by have := (h x).1 (by simp); cases this
  | x :: l, y :: m, h1, h2, h => by
    obtain ⟨a1, a2⟩ := List.pairwise_cons.1 h1
    obtain ⟨b1, b2⟩ := List.pairwise_cons.1 h2
    have e : x = y := by
      rcases List.mem_cons.1 ((h x).1 (by simp)) with e | hx
      · exact e
      · rcases List.mem_cons.1 ((h y).2 (by simp)) with e | hy
        · exact e.symm
        · have := a1 y hy; have := b1 x hx; omega
    subst e
    refine congrArg _ (qfb a2 b2 fun z => ?_)
    constructor
    · intro hz
      rcases List.mem_cons.1 ((h z).1 (List.mem_cons_of_mem _ hz)) with e | hz2
      · subst e; have := a1 _ hz; omega
      · exact hz2
    · intro hz
      rcases List.mem_cons.1 ((h z).2 (List.mem_cons_of_mem _ hz)) with e | hz2
      · subst e; have := b1 _ hz; omega
      · exact hz2
theorem qfc : ∀ {l : List TPkg} {lo : Int}, srt l → (∀ p, p ∈ l → lo ≤ p.name ∧ p.name ≤ 4) → lo ≤ 5 → (l.length : Int) ≤ 5 - lo
  | [], lo, _, _, h => by simp; omega
  | x :: l, lo, h1, h2, h => by
    obtain ⟨a1, a2⟩ := List.pairwise_cons.1 h1
    have hx := h2 x (by simp)
    have := qfc (l := l) (lo := x.name + 1) a2 (fun p hp => ⟨by have := a1 p hp; omega, (h2 p (List.mem_cons_of_mem _ hp)).2⟩) (by omega)
    simp only [List.length_cons]; omega
theorem qaj {l : List TPkg} {p : TPkg} (h : ∀ x, x ∈ l → x.name ≠ p.name) (y : TPkg) : y ∈ y9 l p ↔ y ∈ l ∨ y = p := by
  simp only [y9, List.mem_append, List.mem_filter, List.mem_singleton, decide_eq_true_eq]
  constructor
  · rintro ((⟨a, -⟩ | a) | ⟨a, -⟩)
    · exact .inl a
    · exact .inr a
    · exact .inl a
  · rintro (a | a)
    · have := h y a
      unfold kr
      by_cases e : y.name < p.name
      · exact .inl (.inl ⟨a, .inl e⟩)
      · exact .inr ⟨a, .inl (by omega)⟩
    · exact .inl (.inr a)
theorem qhr {l : List TPkg} {p : TPkg} (hs : srt l) (h : ∀ x, x ∈ l → x.name ≠ p.name) : srt (y9 l p) := by
  unfold srt y9
  rw [List.pairwise_append, List.pairwise_append]
  refine ⟨⟨hs.filter _, by simp, ?_⟩, hs.filter _, ?_⟩
  · intro a ha b hb
    obtain ⟨a1, a2⟩ := List.mem_filter.1 ha
    obtain rfl := List.mem_singleton.1 hb
    have := h a a1
    have a3 := of_decide_eq_true a2; unfold kr at a3; omega
  · intro a ha b hb
    obtain ⟨b1, b2⟩ := List.mem_filter.1 hb
    have hb3 := h b b1
    have b4 := of_decide_eq_true b2; unfold kr at b4
    rcases List.mem_append.1 ha with ha | ha
    · obtain ⟨a1, a2⟩ := List.mem_filter.1 ha
      have := h a a1
      have a3 := of_decide_eq_true a2; unfold kr at a3; omega
    · obtain rfl := List.mem_singleton.1 ha; omega
theorem qhs {l : List TPkg} {p : TPkg} (h : ∀ x, x ∈ l → x.name ≠ p.name) : (y9 l p).length = l.length + 1 := by
  have key : ∀ l : List TPkg, (∀ x, x ∈ l → x.name ≠ p.name) → (l.filter fun x => decide (kr x p)).length + (l.filter fun x => decide (kr p x)).length = l.length := by
    intro l
    induction l with
    | nil => intro _; rfl
    | cons x xs ih =>
      intro hh
      have h1 := ih fun y hy => hh y (List.mem_cons_of_mem _ hy)
      have h2 := hh x (by simp)
      by_cases e : x.name < p.name
      · have e1 : kr x p := .inl e
        have e2 : ¬ kr p x := by unfold kr; omega
        simp only [List.filter_cons, e1, e2, decide_true, decide_false, if_true, List.length_cons]
        simp; omega
      · have e1 : ¬ kr x p := by unfold kr; omega
        have e2 : kr p x := .inl (by omega)
        simp only [List.filter_cons, e1, e2, decide_true, decide_false, if_true, List.length_cons]
        simp; omega
  have := key l h
  simp only [y9, List.length_append, List.length_cons, List.length_nil]; omega
theorem Wt {st hv : List TPkg} {name : Int} (hn : 1 ≤ name ∧ name ≤ 4) (ht : wN st) (ht2 : wN hv) {n : Int} (h : Reach st hv name n) : 1 ≤ n ∧ n ≤ 4 := by
  cases h with
  | this => exact hn
  | was hp => exact (ht2 _ hp).1
  | need h1 h2 h3 =>
    rcases (wH h2).2 with e | e
    · exact (ht _ e).2 _ h3
    · exact (ht2 _ e).2 _ h3
theorem qht {st hv : List TPkg} {name : Int} (hn : 1 ≤ name ∧ name ≤ 4) (ht : wN st) (ht2 : wN hv) (ha : xq st hv name) {p : TPkg} : p ∈ qah st hv name ↔ Reach st hv name p.name ∧ xV st hv p.name = (p, true) := by
  unfold qah
  rw [List.mem_map]
  constructor
  · rintro ⟨n, h1, rfl⟩
    obtain ⟨-, h2⟩ := List.mem_filter.1 h1
    have h3 := xB.1 h2
    have h4 : xV st hv n = ((xV st hv n).1, true) := Prod.ext rfl (ha n h3)
    have h5 := (wH h4).1
    rw [h5]; exact ⟨h3, h4⟩
  · rintro ⟨h1, h2⟩
    have h3 := Wt hn ht ht2 h1
    refine ⟨p.name, List.mem_filter.2 ⟨?_, xB.2 h1⟩, by rw [h2]⟩
    simp only [List.mem_cons, List.not_mem_nil, or_false]; omega
theorem qhu {st hv : List TPkg} {name : Int} (ha : xq st hv name) : srt (qah st hv name) := by
  unfold qah srt
  rw [List.pairwise_map]
  have h1 : (([1, 2, 3, 4] : List Int).filter (YB st hv name)).Pairwise (· < ·) := List.Pairwise.filter _ (by decide)
  refine List.Pairwise.imp_of_mem ?_ h1
  intro a b h2 h3 h4
  have key : ∀ n, n ∈ ([1, 2, 3, 4] : List Int).filter (YB st hv name) → (xV st hv n).1.name = n := fun n hn => by
    have h3 := xB.1 (List.mem_filter.1 hn).2
    exact (wH (p := (xV st hv n).1) (Prod.ext rfl (ha n h3))).1
  rw [key a h2, key b h3]; exact h4
theorem qhv (st hv : List TPkg) (name : Int) : (qah st hv name).length ≤ 4 := by
  unfold qah
  rw [List.length_map]
  exact List.length_filter_le _ _
theorem Wu {st hv : List TPkg} {name : Int} {r : List TPkg} {ok : Bool} (h : qfS st hv name = (r, ok)) : r.length ≤ 4 ∧ ∀ p, p ∈ r → p ∈ st ∨ p ∈ hv := by
  by_cases hc : xq st hv name ∧ zo (qah st hv name) = true
  · rw [qai hc.1 hc.2] at h
    obtain ⟨rfl, -⟩ := Prod.mk.inj h
    refine ⟨qhv _ _ _, fun p hp => ?_⟩
    unfold qah at hp
    obtain ⟨n, h1, rfl⟩ := List.mem_map.1 hp
    have h3 := xB.1 (List.mem_filter.1 h1).2
    exact (wH (p := (xV st hv n).1) (Prod.ext rfl (hc.1 n h3))).2
  · rw [Jb hc] at h
    obtain ⟨rfl, -⟩ := Prod.mk.inj h
    exact ⟨by simp, fun p hp => by cases hp⟩
structure ForInv (st hv : List TPkg) (name : Int) (w : List Bool) (out : List TPkg) : Prop where
  len : w.length = 5
  sound : ∀ x : Int, 1 ≤ x → x ≤ 4 → nth w x.toNat = true → Reach st hv name x
  nm : nth w name.toNat = true
  hvs : ∀ p, p ∈ hv → nth w p.name.toNat = true
  deps : ∀ p, p ∈ out → ∀ d, d ∈ p.deps → nth w d.name.toNat = true
  outp : ∀ p, p ∈ out → xV st hv p.name = (p, true) ∧ (1 ≤ p.name ∧ p.name ≤ 4) ∧ Reach st hv name p.name
  so : srt out
theorem ForInv.le {st hv : List TPkg} {name : Int} {w : List Bool} {out : List TPkg} (h : ForInv st hv name w out) : out.length ≤ 4 := by
  have := qfc (lo := 1) h.so (fun p hp => (h.outp p hp).2.1) (by omega)
  omega
theorem ForInv.all {st hv : List TPkg} {name : Int} {w : List Bool} {out : List TPkg} (h : ForInv st hv name w out) (hn : 1 ≤ name ∧ name ≤ 4) (ht : wN st) (ht2 : wN hv) (hd : ∀ m : Int, 1 ≤ m → m < 5 → nth w m.toNat = true → ∃ p, p ∈ out ∧ p.name = m) :
    xq st hv name ∧ out = qah st hv name := by
  have key : ∀ n, Reach st hv name n → nth w n.toNat = true := by
    intro n hr
    induction hr with
    | this => exact h.nm
    | was hp => exact h.hvs _ hp
    | need h1 h2 h3 ih =>
      have hb := Wt hn ht ht2 h1
      obtain ⟨q, hq, e⟩ := hd _ hb.1 (by omega) ih
      have h4 := (h.outp q hq).1
      rw [e, h2] at h4
      obtain ⟨rfl, -⟩ := Prod.mk.inj h4
      exact h.deps _ hq _ h3
  have hin : ∀ n, Reach st hv name n → ∃ p, p ∈ out ∧ p.name = n := fun n hr => by
    have hb := Wt hn ht ht2 hr
    exact hd n hb.1 (by omega) (key n hr)
  have ha : xq st hv name := fun n hr => by
    obtain ⟨p, hp, rfl⟩ := hin n hr
    rw [(h.outp p hp).1]
  refine ⟨ha, qfb h.so (qhu ha) fun x => ?_⟩
  rw [qht hn ht ht2 ha]
  constructor
  · intro hx; exact ⟨(h.outp x hx).2.2, (h.outp x hx).1⟩
  · rintro ⟨h1, h2⟩
    obtain ⟨p, hp, e⟩ := hin _ h1
    have h4 := (h.outp p hp).1
    rw [e, h2] at h4
    obtain ⟨rfl, -⟩ := Prod.mk.inj h4
    exact hp
theorem kL {α : Type} [Inhabited α] (l : List α) (i j : Nat) (a : α) : nth (l.set i a) j = if i = j ∧ i < l.length then a else nth l j := by
  unfold nth
  simp only [List.getD_eq_getElem?_getD, List.getElem?_set]
  by_cases e : i = j
  · subst e
    by_cases h : i < l.length
    · simp [h]
    · simp [h]
  · simp [e]
def QFor (st hv : List TPkg) (name : Int) : SV → List SO → Prop := fun x os => ∃ r ok, qfS st hv name = (r, ok) ∧ x = .tup [.osl 0, bB ok] ∧ os = [.arr false 4 (r.map zh)]
abbrev osF (w : List Bool) (out : List TPkg) (p : TPkg) : List SO := [.arr false 1 (w.map bB), .frz 4 (out.map zh), .frz 2 (p.files.map wq), .frz 2 (p.deps.map je), .arr false 2 [], .arr false 2 [], .box [iI p.name, iI p.ver, .osl 2, .osl 3], .arr false 4 ((y9 out p).map zh)]
theorem YC (st hv out : List TPkg) (p : TPkg) (m9 : Nat → Nat) {Q : SV → List SO → Prop} (w0 : List Bool) (hd : jC p.deps) (hdl : p.deps.length ≤ 2000000)
    (hq : ∀ w : List Bool, w.length = 5 → (∀ x : Nat, nth w0 x = true → nth w x = true) → (∀ d, d ∈ p.deps → nth w d.name.toNat = true) → (∀ x : Nat, nth w x = true → nth w0 x = true ∨ ∃ d, d ∈ p.deps ∧ d.name.toNat = x) →
      Ev (fun n => Ko (qd prg n) (n + 1) 0 (m9 n) (.sl 4 (st.map zh)) (.sl 4 (hv.map zh)) (.osl 0) (.osl 7) (iI 0) (osF w out p)) Q) :
    ∀ j, j ≤ p.deps.length → ∀ w : List Bool, w.length = 5 → (∀ x : Nat, nth w0 x = true → nth w x = true) → (∀ k, k < j → nth w (nth p.deps k).name.toNat = true) → (∀ x : Nat, nth w x = true → nth w0 x = true ∨ ∃ d, d ∈ p.deps ∧ d.name.toNat = x) → ∀ (k : Int) (c : Nat), k = j →
      Ev (fun n => Kp (qd prg n) (n + 1) 0 (m9 n) (n + 1 - c) (.sl 4 (st.map zh)) (.sl 4 (hv.map zh)) (.osl 0) (.osl 7) (.ptr 6 0) (iI k) (osF w out p)) Q := by
  refine zC ?_
  intro j hj ih w hw h1 h2 h3 k c hk
  subst hk
  have hdj : j < p.deps.length → 1 ≤ (nth p.deps j).name ∧ (nth p.deps j).name ≤ 4 := fun h => hd _ (zX h)
  (refine qkI ?_; unfold XE)
  repeat' (first|((with_reducible refine eB ?_);first|((with_reducible refine zf ?_ ?_)<;>intro h<;>try (exfalso;omega))|((with_reducible refine zi ?_ ?_);· omega)|refine qe rfl ?_|refine qb rfl ?_)|((with_reducible refine eL ?_);first|((with_reducible refine qI ?_ ?_);· rfl)|refine qy rfl rfl ?_|refine qG rfl rfl ?_|refine qz rfl rfl rfl ?_|refine qJ rfl rfl ?_|refine qH rfl rfl ?_|refine qK rfl ?_|refine qe rfl ?_|refine qb rfl ?_)|((with_reducible refine eI ?_);first|((with_reducible refine q5 ?_ ?_ ?_);(·rfl);· omega)|(refine qN rfl rfl ?_ ?_;(·first|omega|(simp only [List.length_cons,List.length_nil,List.length_map,List.length_append];omega)))|(refine qO rfl rfl ?_ ?_;(focus omega))|((with_reducible refine q9 ?_ ?_ ?_);(·rfl);· omega)|(refine qS rfl rfl ?_ ?_;(·first|omega|(simp only [List.length_cons,List.length_nil,List.length_map,List.length_append];omega)))|(refine qW rfl rfl ?_ ?_;(focus omega))|refine qe rfl ?_|refine qb rfl ?_)|((with_reducible refine eK ?_);first|(with_reducible first|refine qT ?_|refine qU ?_)|((with_reducible refine qr ?_ ?_)<;>intro h))|((with_reducible refine eO ?_);first|refine qe rfl ?_|(refine qB rfl ?_ ?_<;>intro h<;>try (exfalso;simp_all;done))|refine qb rfl ?_|(refine qF rfl ?_ rfl ?_;(focus omega))|(refine qt rfl ?_ rfl ?_ ?_;(focus omega);(all_goals intro h)))|((with_reducible refine eD ?_);first|refine qe rfl ?_|refine qb rfl ?_|( (refine wr (f := bB) (a := true) rfl rfl rfl rfl rfl rfl rfl rfl ?_ rfl ?_;(focus omega))))|((with_reducible refine ih ?_ _ ?_ ?_ ?_ ?_ _ _ ?_)<;>(first|omega|assumption|((first|(rw [List.length_set];exact hw)|(intro x hx;rw [kL];split;rfl;exact h1 x hx)|(intro k hk;rw [kL];split;rfl;rename_i hne;by_cases e : k = j;subst e;exact absurd ⟨rfl,by omega⟩ hne;exact h2 k (by omega))|(intro x hx;rw [kL] at hx;split at hx;rename_i he;exact .inr ⟨_,zX (l := p.deps) (k := j) (by omega),he.1⟩;exact h3 x hx)))|(simp only [*,List.map_append,List.length_append,List.length_cons,List.length_nil,List.map_cons,List.map_nil];done)|(simp_all;done)|(simp_all;omega)))|( exact hq w hw h1 (fun d hd2 => by (obtain ⟨k,hk,rfl⟩ := kK hd2;exact h2 k (by omega))) h3)|refine qq rfl ?_)
theorem Jc (st hv : List TPkg) (hs : st.length ≤ 2000000) (hp0 : PL st) (hs2 : hv.length ≤ 2000000) (hp2 : PL hv) (name : Int) (hn : 1 ≤ name ∧ name ≤ 4) (ht : wN st) (ht2 : wN hv) (hpo : ∀ r : List TPkg, (∀ p, p ∈ r → p ∈ st ∨ p ∈ hv) → PL r) : ∀ (μ : Nat) (w : List Bool) (out : List TPkg) (n : Int) (c : Nat), ForInv st hv name w out → 1 ≤ n → n ≤ 5 → (∀ m : Int, 1 ≤ m → m < n → nth w m.toNat = true → ∃ p, p ∈ out ∧ p.name = m) → (4 - out.length) * 6 + (5 - n).toNat < μ →
    Ev (fun n' => qby (qd prg n') (n' + 1) 0 (n' + 1 - c) [.sl 4 (st.map zh), .sl 4 (hv.map zh), .osl 0, .osl 1, iI n] [.arr false 1 (w.map bB), .arr false 4 (out.map zh)]) (QFor st hv name) := by
  intro μ
  induction μ with
  | zero => intro w out n c _ _ _ _ hμ; omega
  | succ μ ih =>
  intro w out n c hI hn1 hn5 hdone hμ
  have hlen := hI.le
  have hw := hI.len
  have hpo' : PL out := hpo out fun p hp => (wH (hI.outp p hp).1).2
  have hgo : nth w n.toNat = false ∨ (kj out n).2 = true → n ≤ 4 → ∀ m : Int, 1 ≤ m → m < n + 1 → nth w m.toNat = true → ∃ p, p ∈ out ∧ p.name = m := fun h h4 m hm1 hm2 hm => by
    by_cases e : m = n
    · subst e
      rcases h with h | h
      · rw [h] at hm; cases hm
      · obtain ⟨e1, e2, -⟩ := w5 (s := out) (name := m) (p := (kj out m).1) (Prod.ext rfl h)
        exact ⟨_, e1, e2⟩
    · exact hdone m hm1 (by omega) hm
  have hnext : n ≤ 4 → nth w n.toNat = true → (kj out n).2 = false → ∀ p, xV st hv n = (p, true) → ∀ w' : List Bool, w'.length = 5 → (∀ x : Nat, nth w x = true → nth w' x = true) → (∀ d, d ∈ p.deps → nth w' d.name.toNat = true) → (∀ x : Nat, nth w' x = true → nth w x = true ∨ ∃ d, d ∈ p.deps ∧ d.name.toNat = x) →
      ∀ c, Ev (fun n => Ko (qd prg n) (n + 1) 0 (n + 1 - c) (.sl 4 (st.map zh)) (.sl 4 (hv.map zh)) (.osl 0) (.osl 7) (iI 0) (osF w' out p)) (QFor st hv name) := by
    intro hn4 hwn hnew p hp w' hw' h1 h2 h3 c
    have hno := (Qw (s := out) (name := n) (p := (kj out n).1) (Prod.ext rfl hnew)).2
    obtain ⟨hpn, hpm⟩ := wH hp
    have hno' : ∀ x, x ∈ out → x.name ≠ p.name := fun x hx => by rw [hpn]; exact hno x hx
    have hr : Reach st hv name n := hI.sound n hn1 hn4 hwn
    have hpt : jC p.deps := by
      rcases hpm with e | e
      · exact (ht p e).2
      · exact (ht2 p e).2
    have hI' : ForInv st hv name w' (y9 out p) := by
      refine ⟨hw', fun x hx1 hx2 hx => ?_, h1 _ hI.nm, fun q hq => h1 _ (hI.hvs q hq), fun q hq d hd => ?_, fun q hq => ?_, qhr hI.so hno'⟩
      · rcases h3 _ hx with e | ⟨d, hd, e⟩
        · exact hI.sound x hx1 hx2 e
        · have := hpt d hd
          obtain rfl : d.name = x := by omega
          exact .need hr hp hd
      · rcases (qaj hno' q).1 hq with e | rfl
        · exact h1 _ (hI.deps q e d hd)
        · exact h2 d hd
      · rcases (qaj hno' q).1 hq with e | rfl
        · exact hI.outp q e
        · rw [hpn]; exact ⟨hp, ⟨hn1, hn4⟩, hr⟩
    have hl' := qhs hno'
    have hle' := hI'.le
    repeat' (first|((with_reducible refine eB ?_);first|((with_reducible refine zi ?_ ?_);· omega)|refine qe rfl ?_|refine qb rfl ?_)|((with_reducible refine eD ?_);first|refine qe rfl ?_|refine qb rfl ?_)|((with_reducible refine eH ?_);first|refine zA rfl ?_)|((with_reducible refine qeG ?_);(unfold Wj))|(with_reducible first|refine qaa ?_|refine qeF ?_)|( (refine ih w' (y9 out p) _ _ hI' ?_ ?_ ?_ ?_;(focus omega);(focus omega);(focus (intro m hm1 hm2;exfalso;omega));(focus omega)))|refine qq rfl ?_)
  (refine UG89_9 _ ?_; unfold qeg)
  repeat' (first|((with_reducible refine eG ?_);first|(with_reducible first|refine qX ?_|refine qY ?_|refine qZ ?_|refine q4 ?_|refine zm ?_)|refine qe rfl ?_|refine qb rfl ?_|((with_reducible refine zn ?_ ?_)<;>intro h))|((with_reducible refine eB ?_);first|((with_reducible refine xk ?_ ?_)<;>intro h<;>try (exfalso;omega))|((with_reducible refine zi ?_ ?_);· omega)|refine qe rfl ?_|refine qb rfl ?_)|((with_reducible refine eI ?_);first|((with_reducible refine q5 ?_ ?_ ?_);(·rfl);· omega)|(refine qN rfl rfl ?_ ?_;(·first|omega|(simp only [List.length_cons,List.length_nil,List.length_map,List.length_append];omega)))|(refine qO rfl rfl ?_ ?_;(focus omega))|((with_reducible refine q9 ?_ ?_ ?_);(·rfl);· omega)|(refine qS rfl rfl ?_ ?_;(·first|omega|(simp only [List.length_cons,List.length_nil,List.length_map,List.length_append];omega)))|(refine qW rfl rfl ?_ ?_;(focus omega))|refine qe rfl ?_|refine qb rfl ?_)|((with_reducible refine eC ?_);first|((refine qk (qlk out (by omega) hpo' n) rfl rfl ?_ rfl ?_);(focus first|exact .inl rfl|exact .inr rfl|(refine .inr ?_;simp [qo,qm,qh,qg,SO.hasSl,List.all_map,qi,SV.cells,Function.comp_def];done)))|((refine zk (qfa st hv hs hp0 hs2 hp2 n) rfl rfl ?_);((rintro _ _ ⟨p,ok,h1,rfl,rfl⟩)<;>((rcases ok with _|_))<;>(first|(refine zF ?_ rfl ?_;(focus first|exact .inl rfl|exact .inr rfl|(refine .inr ?_;simp [qo,qm,qh,qg,SO.hasSl,List.all_map,qi,SV.cells,Function.comp_def];done)))|(refine zl ?_ rfl ?_;(focus first|rfl|(simp [qo,qm,qh,qg,SO.hasSl,List.all_map,qi,SV.cells,Function.comp_def];done))))))|((refine wT (Yt out p (by omega)) rfl rfl ?_ rfl ?_);(·first|rfl|(simp [qo,qm,qh,qg,SO.hasSl,List.all_map,qi,SV.cells,Function.comp_def];done)))|((refine zT (xm out (by omega) hpo') rfl rfl ?_ rfl rfl ?_ ?_);(focus first|exact .inl rfl|exact .inr rfl|(refine .inr ?_;simp [qo,qm,qh,qg,SO.hasSl,List.all_map,qi,SV.cells,Function.comp_def];done));(all_goals (intro h));(all_goals (try (exfalso;simp_all;done)))))|((with_reducible refine eK ?_);first|(with_reducible first|refine qT ?_|refine qU ?_)|((with_reducible refine qr ?_ ?_)<;>intro h))|((with_reducible refine eO ?_);first|refine qe rfl ?_|(refine qB rfl ?_ ?_<;>intro h<;>try (exfalso;simp_all;done))|refine qb rfl ?_|(refine qF rfl ?_ rfl ?_;(focus omega))|(refine qt rfl ?_ rfl ?_ ?_;(focus omega);(all_goals intro h))|(refine zP rfl rfl rfl ?_ ?_ ?_;(·simp);(·first|omega|(simp only [List.length_cons,List.length_nil,List.length_map,List.length_append];omega));intro w))|((with_reducible refine eD ?_);first|refine qe rfl ?_|refine qb rfl ?_|((with_reducible refine qC ?_ ?_)<;>intro h))|((with_reducible refine eH ?_);first|refine zA rfl ?_)|((with_reducible refine qeG ?_);(unfold Wj))|(with_reducible first|refine qaa ?_|refine qeF ?_)|( (refine ih w out _ _ hI ?_ ?_ (hgo ?_ ?_) ?_;(focus omega);(focus omega);(focus first|exact .inl h|exact .inr h);(focus omega);(focus omega)))|( exact YC st hv out p _ w ((wH h1).2.elim (fun e => (ht p e).2) (fun e => (ht2 p e).2)) ((wH h1).2.elim (fun e => by (obtain ⟨k,hk,rfl⟩ := kK e;exact (hp0 k).2)) (fun e => by (obtain ⟨k,hk,rfl⟩ := kK e;exact (hp2 k).2))) (fun w' a1 a2 a3 a4 => hnext (by omega) (by assumption) (by assumption) p h1 w' a1 a2 a3 a4 _) 0 (by omega) w hw (fun x hx => hx) (fun k hk => by omega) (fun x hx => .inl hx) _ 0 rfl)|refine qq rfl ?_)
  · refine ⟨[], false, Jb fun hc => ?_, rfl, rfl⟩
    have h8 := hc.1 n (hI.sound n hn1 (by omega) (by assumption))
    rw [h1] at h8; cases h8
  all_goals (obtain ⟨ha, he⟩ := hI.all hn ht ht2 (by rw [show (5 : Int) = n by omega]; exact hdone))
  · exact ⟨_, _, qai ha (he ▸ h), rfl, by rw [he]⟩
  · exact ⟨[], false, Jb (fun hc => by (rw [← he, h] at hc); exact Bool.noConfusion hc.2), rfl, rfl⟩
theorem Jd (st hv : List TPkg) (hs : st.length ≤ 2000000) (hp0 : PL st) (hs2 : hv.length ≤ 2000000) (hp2 : PL hv) (name : Int) (hn : 1 ≤ name ∧ name ≤ 4) (ht : wN st) (ht2 : wN hv) (hpo : ∀ r : List TPkg, (∀ p, p ∈ r → p ∈ st ∨ p ∈ hv) → PL r) : ∀ i, i ≤ hv.length → ∀ w : List Bool, w.length = 5 → nth w name.toNat = true → (∀ j, j < i → nth w (nth hv j).name.toNat = true) → (∀ x : Int, 1 ≤ x → x ≤ 4 → nth w x.toNat = true → Reach st hv name x) → ∀ (k : Int) (c : Nat), k = i →
    Ev (fun n => qbw (qd prg n) (n + 1) 0 (n + 1 - c) (.sl 4 (st.map zh)) (.sl 4 (hv.map zh)) (.osl 1) (iI k) [.arr false 4 [], .arr false 1 (w.map bB)]) (QFor st hv name) := by
  refine zC ?_
  intro i hi ih w hw h1 h2 h3 k c hk
  subst hk
  have hti : i < hv.length → 1 ≤ (nth hv i).name ∧ (nth hv i).name ≤ 4 := fun h => (ht2 _ (zX h)).1
  have hst : i < hv.length → (w.set (nth hv i).name.toNat true).length = 5 ∧ nth (w.set (nth hv i).name.toNat true) name.toNat = true ∧ (∀ j, j < i + 1 → nth (w.set (nth hv i).name.toNat true) (nth hv j).name.toNat = true) ∧ (∀ x : Int, 1 ≤ x → x ≤ 4 → nth (w.set (nth hv i).name.toNat true) x.toNat = true → Reach st hv name x) := fun hi2 => by
    have := hti hi2
    refine ⟨by rw [List.length_set]; exact hw, ?_, fun j hj => ?_, fun x hx1 hx2 hx => ?_⟩
    · rw [kL]; split
      · rfl
      · exact h1
    · rw [kL]; split
      · rfl
      · rename_i hne
        by_cases e : j = i
        · subst e; exact absurd ⟨rfl, by omega⟩ hne
        · exact h2 j (by omega)
    · rw [kL] at hx; split at hx
      · rename_i he
        obtain rfl : x = (nth hv i).name := by omega
        exact .was (zX hi2)
      · exact h3 x hx1 hx2 hx
  (refine UL89_4 ?_; unfold qef)
  repeat' (first|((with_reducible refine eB ?_);first|((with_reducible refine zf ?_ ?_)<;>intro h<;>try (exfalso;omega))|((with_reducible refine zi ?_ ?_);· omega)|refine qe rfl ?_|refine qb rfl ?_)|((with_reducible refine eL ?_);first|((with_reducible refine qI ?_ ?_);· rfl)|refine qy rfl rfl ?_|refine qG rfl rfl ?_|refine qz rfl rfl rfl ?_|refine qJ rfl rfl ?_|refine qH rfl rfl ?_|refine qK rfl ?_|refine qe rfl ?_|refine qb rfl ?_)|((with_reducible refine eI ?_);first|((with_reducible refine q5 ?_ ?_ ?_);(·rfl);· omega)|(refine qN rfl rfl ?_ ?_;(·first|omega|(simp only [List.length_cons,List.length_nil,List.length_map,List.length_append];omega)))|(refine qO rfl rfl ?_ ?_;(focus omega))|((with_reducible refine q9 ?_ ?_ ?_);(·rfl);· omega)|(refine qS rfl rfl ?_ ?_;(·first|omega|(simp only [List.length_cons,List.length_nil,List.length_map,List.length_append];omega)))|(refine qW rfl rfl ?_ ?_;(focus omega))|refine qe rfl ?_|refine qb rfl ?_)|((with_reducible refine eK ?_);first|(with_reducible first|refine qT ?_|refine qU ?_)|((with_reducible refine qr ?_ ?_)<;>intro h))|((with_reducible refine eO ?_);first|refine qe rfl ?_|(refine qB rfl ?_ ?_<;>intro h<;>try (exfalso;simp_all;done))|refine qb rfl ?_|(refine qF rfl ?_ rfl ?_;(focus omega))|(refine qt rfl ?_ rfl ?_ ?_;(focus omega);(all_goals intro h))|(refine zP rfl rfl rfl ?_ ?_ ?_;(·simp);(·first|omega|(simp only [List.length_cons,List.length_nil,List.length_map,List.length_append];omega));intro w))|((with_reducible refine eD ?_);first|refine qe rfl ?_|refine qb rfl ?_|( (refine wr (f := bB) (a := true) rfl rfl rfl rfl rfl rfl rfl rfl ?_ rfl ?_;(focus omega))))|((with_reducible refine eH ?_);first|refine zA rfl ?_)|(with_reducible first|refine qaa ?_|refine qeF ?_)|( exact ih (by omega) _ (hst (by omega)).1 (hst (by omega)).2.1 (hst (by omega)).2.2.1 (hst (by omega)).2.2.2 _ _ rfl)|( exact Jc st hv hs hp0 hs2 hp2 name hn ht ht2 hpo 1000 w [] 1 _ ⟨hw,h3,h1,fun p hp => by (obtain ⟨j,hj,rfl⟩ := kK hp;exact h2 j (by omega)),(fun p hp => by cases hp),(fun p hp => by cases hp),List.Pairwise.nil⟩ (by omega) (by omega) (fun m a b => by omega) (by simp))|refine qq rfl ?_)
theorem qhw (st hv : List TPkg) (hs : st.length ≤ 2000000) (hp0 : PL st) (hs2 : hv.length ≤ 2000000) (hp2 : PL hv) (name : Int) (hn : 1 ≤ name ∧ name ≤ 4) (ht : wN st) (ht2 : wN hv) : Ev (fun n => qd prg n 89 [.sl 4 (st.map zh), .sl 4 (hv.map zh), iI name] []) (QFor st hv name) := by
  have hpo : ∀ r : List TPkg, (∀ p, p ∈ r → p ∈ st ∨ p ∈ hv) → PL r := fun r h i => by
    by_cases hi : i < r.length
    · rcases h _ (zX hi) with e | e
      · obtain ⟨k, hk, e2⟩ := kK e; rw [← e2]; exact hp0 k
      · obtain ⟨k, hk, e2⟩ := kK e; rw [← e2]; exact hp2 k
    · have : nth r i = default := by
        unfold nth
        rw [List.getD_eq_getElem?_getD, List.getElem?_eq_none (by omega)]; rfl
      rw [this]
      exact ⟨by show ([] : List TFile).length ≤ _; simp, by show ([] : List TDep).length ≤ _; simp⟩
  have hini : ∀ x : Int, 1 ≤ x → x ≤ 4 → nth (([false, false, false, false, false] : List Bool).set name.toNat true) x.toNat = true → Reach st hv name x := fun x hx1 hx2 hx => by
    rw [kL] at hx
    split at hx
    · rename_i he
      obtain rfl : x = name := by omega
      exact .this
    · obtain rfl | rfl | rfl | rfl : x = 1 ∨ x = 2 ∨ x = 3 ∨ x = 4 := by omega
      all_goals cases hx
  (refine U89 (nl := 0) rfl ?_; unfold B89)
  repeat' (first|((with_reducible refine eI ?_);first|((with_reducible refine q5 ?_ ?_ ?_);(·rfl);· omega)|(refine qN rfl rfl ?_ ?_;(·first|omega|(simp only [List.length_cons,List.length_nil,List.length_map,List.length_append];omega)))|(refine qO rfl rfl ?_ ?_;(focus omega))|((with_reducible refine q9 ?_ ?_ ?_);(·rfl);· omega)|( (refine qS rfl rfl ?_ ?_;(focus (show _ ∧ _ < (5 : Int);omega))))|(refine qS rfl rfl ?_ ?_;(·first|omega|(simp only [List.length_cons,List.length_nil,List.length_map,List.length_append];omega)))|(refine qW rfl rfl ?_ ?_;(focus omega))|refine qe rfl ?_|refine qb rfl ?_)|((with_reducible refine eD ?_);first|refine qe rfl ?_|refine qb rfl ?_|( (refine wr (f := bB) (l := [false,false,false,false,false]) (a := true) rfl rfl rfl rfl rfl rfl rfl rfl ?_ rfl ?_;(focus (show _ < 5;omega)))))|( exact Jd st hv hs hp0 hs2 hp2 name hn ht ht2 hpo 0 (by omega) _ (by simp) (by (rw [kL];rw [if_pos ⟨rfl,by show _ < 5;omega⟩])) (fun j hj => by omega) hini 0 0 rfl)|refine qq rfl ?_)
end Go.Proofs.Ytfjbclgbpdlkgaa

/- Drawn packages that can be in together. -/
namespace Go.Proofs.Ytfjbclgbpdlkgaa
open Go
set_option linter.unusedVariables false
set_option linter.unusedSimpArgs false
set_option maxHeartbeats 40000000
def Res4 (j : Nat) (s : List TPkg) (x : SV) (t : List SO) : Prop := (x = .osl j ∧ t = [.arr false 4 (s.map zh)]) ∨ (x = .sl 4 (s.map zh) ∧ t = [])
def Arr4 (s : List TPkg) (o : SO) : Prop := o = .arr false 4 (s.map zh) ∨ o = .frz 4 (s.map zh)
theorem qb4 {st hv : List TPkg} {name : Int} {r : List TPkg} {ok : Bool} (h : qfS st hv name = (r, ok)) (h1 : kh st) (h2 : kh hv) : kh r := fun p hp => ((Wu h).2 p hp).elim (h1 p) (h2 p)
theorem qfd {st hv : List TPkg} {name : Int} {r : List TPkg} {ok : Bool} (h : qfS st hv name = (r, ok)) (h1 : wN st) (h2 : wN hv) : wN r := fun p hp => ((Wu h).2 p hp).elim (h1 p) (h2 p)
def QPlan (b : List Int) (p : Int) : SV → List SO → Prop := fun x os => ∃ (s : List TPkg) (q : Int) (t : List SO), os = rd b q :: t ∧ Res4 1 s x t ∧ s.length ≤ 4 ∧ kh s ∧ p ≤ q ∧ q ≤ p + 10 ∧ wN s
end Go.Proofs.Ytfjbclgbpdlkgaa

/- Packages that can be in together, as a law of lists; one less. -/
namespace Go.Proofs.Ytfjbclgbpdlkgaa
open Go
set_option linter.unusedVariables false
set_option linter.unusedSimpArgs false
theorem YD {α : Type} [Inhabited α] {R : α → α → Prop} {l : List α} : l.Pairwise R ↔ ∀ i j, i < j → j < l.length → R (nth l i) (nth l j) := by
  rw [List.pairwise_iff_getElem]
  have key : ∀ i (h : i < l.length), l[i] = nth l i := fun i h => by
    have := w3 h
    rw [List.getElem?_eq_getElem h] at this
    exact Option.some.inj this
  constructor
  · intro h i j hij hj
    have := h i j (by omega) hj hij
    rwa [key, key] at this
  · intro h i j hi hj hij
    rw [key, key]; exact h i j hij hj
def apart (s : List TPkg) : Prop := s.Pairwise fun p q => ∀ f, f ∈ p.files → ∀ g, g ∈ q.files → g.path ≠ f.path
theorem qak {s : List TPkg} : zo s = true ↔ (∀ p, p ∈ s → w4 p = true) ∧ srt s ∧ (∀ p, p ∈ s → ∀ d, d ∈ p.deps → wu s d.name d.least) ∧ apart s := by
  rw [KC]
  constructor
  · rintro ⟨hs, hp⟩
    have hone : ∀ j i, i < j → j < s.length → (nth s i).name < (nth s j).name := by
      intro j
      induction j with
      | zero => intro i hi; omega
      | succ j ih =>
        intro i hi hj
        have h1 := (hp (j + 1) hj).1 (by omega)
        simp only [Nat.add_sub_cancel] at h1
        by_cases e : i = j
        · subst e; exact h1
        · have := ih i (by omega) (by omega); omega
    refine ⟨fun p h => ?_, YD.2 fun i j hij hj => hone j i hij hj, fun p h d hd => ?_, YD.2 fun i j hij hj f hf g hg e => ?_⟩
    · obtain ⟨i, hi, rfl⟩ := kK h
      exact (ww.1 hs i hi).1
    · obtain ⟨i, hi, rfl⟩ := kK h
      obtain ⟨k, hk, rfl⟩ := kK hd
      exact (hp i hi).2.1 k hk
    · obtain ⟨k, hk, rfl⟩ := kK hg
      exact (hp j hj).2.2 k hk ⟨i, hij, f, hf, e.symm⟩
  · rintro ⟨h1, h2, h3, h4⟩
    have h2' := YD.1 h2
    have h4' := YD.1 h4
    refine ⟨ww.2 fun i hi => ⟨h1 _ (zX hi), fun h0 => .inl (h2' _ _ (by omega) hi)⟩, fun i hi => ⟨fun h0 => h2' _ _ (by omega) hi, fun k hk => h3 _ (zX hi) _ (zX hk), fun k hk => ?_⟩⟩
    rintro ⟨j, hj, f, hf, e⟩
    exact h4' j i hj hi f hf _ (zX hk) e.symm
def neededP (s : List TPkg) (k : Nat) : Prop := ∃ i, i < s.length ∧ i ≠ k ∧ ∃ d, d ∈ (nth s i).deps ∧ d.name = (nth s k).name
end Go.Proofs.Ytfjbclgbpdlkgaa

/- What is at each place. -/
namespace Go.Proofs.Ytfjbclgbpdlkgaa
open Go
set_option linter.unusedVariables false
set_option linter.unusedSimpArgs false
set_option maxHeartbeats 4000000
set_option maxRecDepth 100000
def KF (w : List Int) (F : List TFile) : List Int := F.foldl (fun w f => w.set f.path.toNat f.data) w
def YE : List Int := [-1, -1, -1, -1, -1, -1]
def yV (s : List TPkg) (i : Nat) : List Int := (s.take i).foldl (fun w p => KF w p.files) YE
def zj (s : List TPkg) : List Int := s.foldl (fun w p => KF w p.files) YE
def kM (s : List TPkg) : List Int := if zo s = true then zj s else []
theorem YF {w : List Int} {F : List TFile} {j : Nat} (h : j < F.length) : KF w (F.take (j + 1)) = (KF w (F.take j)).set (nth F j).path.toNat (nth F j).data := by
  unfold KF; rw [jy h, List.foldl_append]; rfl
theorem Qy {s : List TPkg} {i : Nat} (h : i < s.length) : yV s (i + 1) = KF (yV s i) (nth s i).files := by
  unfold yV; rw [jy h, List.foldl_append]; rfl
theorem xW {s : List TPkg} : yV s s.length = zj s := by unfold yV zj; rw [List.take_length]
theorem Wv (w : List Int) (F : List TFile) : (KF w F).length = w.length := by
  unfold KF
  induction F generalizing w with
  | nil => rfl
  | cons f F ih => rw [List.foldl_cons, ih, List.length_set]
theorem xX (s : List TPkg) (i : Nat) : (yV s i).length = 6 := by
  unfold yV
  generalize s.take i = r
  have key : ∀ (r : List TPkg) (w : List Int), (r.foldl (fun w p => KF w p.files) w).length = w.length := by
    intro r
    induction r with
    | nil => intro w; rfl
    | cons p r ih => intro w; rw [List.foldl_cons, ih, Wv]
  rw [key]; rfl
theorem kv (s : List TPkg) : (zj s).length = 6 := by rw [← xW]; exact xX _ _
def yy (s : List TPkg) : Prop := ∀ i, i < s.length → ∀ j, j < (nth s i).files.length → 0 ≤ (nth (nth s i).files j).path ∧ (nth (nth s i).files j).path ≤ 5
theorem kR {s : List TPkg} (h : zo s = true) : yy s := fun i hi j hj => by
  have h1 := (ww.1 (KC.1 h).1 i hi).1
  have h2 := (xn h1).2 j hj
  unfold yi at h2; omega
theorem ZU (s : List TPkg) (hs : s.length ≤ 2000000) (hp0 : PL s) (hpt : yy s) {Q : SV → List SO → Prop} (m7 : Nat → Nat) (i : Nat) (hi : i < s.length) (w0 : List Int) (hw0 : w0.length = 6)
    (hq : Ev (fun n => Yk (qd prg n) (n + 1) 0 (m7 n) (.sl 4 (s.map zh)) (.osl 1) (iI ((i : Int) + 1)) [.arr false 1 [], .arr false 1 ((KF w0 (nth s i).files).map iI)]) Q) : ∀ j, j ≤ (nth s i).files.length → ∀ (w : List Int), w = KF w0 ((nth s i).files.take j) → ∀ (k : Int) (c : Nat), k = j →
    Ev (fun n => Kj (qd prg n) (n + 1) 0 (m7 n) (n + 1 - c) (.sl 4 (s.map zh)) (.osl 1) (iI i) (iI k) [.arr false 1 [], .arr false 1 (w.map iI)]) Q := by
  have hpi := hp0 i
  have hpti := hpt i hi
  refine zC ?_
  intro j hj ih w hw k c hk
  subst hk
  have hwl : w.length = 6 := by rw [hw, Wv, hw0]
  have hptj := hpti j
  have hqe : j = (nth s i).files.length → Ev (fun n => Yk (qd prg n) (n + 1) 0 (m7 n) (.sl 4 (s.map zh)) (.osl 1) (iI ((i : Int) + 1)) [.arr false 1 [], .arr false 1 (w.map iI)]) Q := fun e => by
    rw [hw, e, List.take_length]; exact hq
  (refine qj3 ?_; unfold Xv)
  repeat' (first|((with_reducible refine eB ?_);first|((with_reducible refine zf ?_ ?_)<;>intro h<;>try (exfalso;omega))|((with_reducible refine zi ?_ ?_);· omega)|refine qe rfl ?_|refine qb rfl ?_)|((with_reducible refine eL ?_);first|((with_reducible refine qI ?_ ?_);· rfl)|refine qy rfl rfl ?_|refine qG rfl rfl ?_|refine qz rfl rfl rfl ?_|refine qJ rfl rfl ?_|refine qH rfl rfl ?_|refine qK rfl ?_|refine qe rfl ?_|refine qb rfl ?_)|((with_reducible refine eI ?_);first|((with_reducible refine q5 ?_ ?_ ?_);(·rfl);· omega)|(refine qN rfl rfl ?_ ?_;(·first|omega|(simp only [List.length_cons,List.length_nil,List.length_map,List.length_append];omega)))|(refine qO rfl rfl ?_ ?_;(focus omega))|((with_reducible refine q9 ?_ ?_ ?_);(·rfl);· omega)|(refine qS rfl rfl ?_ ?_;(·first|omega|(simp only [List.length_cons,List.length_nil,List.length_map,List.length_append];omega)))|(refine qW rfl rfl ?_ ?_;(focus omega))|refine qe rfl ?_|refine qb rfl ?_)|((with_reducible refine eK ?_);first|(with_reducible first|refine qT ?_|refine qU ?_)|((with_reducible refine qr ?_ ?_)<;>intro h))|((with_reducible refine eO ?_);first|refine qe rfl ?_|(refine qB rfl ?_ ?_<;>intro h<;>try (exfalso;simp_all;done))|refine qb rfl ?_|(refine qF rfl ?_ rfl ?_;(focus omega))|(refine qt rfl ?_ rfl ?_ ?_;(focus omega);(all_goals intro h)))|((with_reducible refine eD ?_);first|refine qe rfl ?_|refine qb rfl ?_|( (refine wr (f := iI) (a := (nth (nth s i).files j).data) rfl rfl rfl rfl rfl rfl rfl rfl ?_ rfl ?_;(focus omega))))|((with_reducible refine ih ?_ _ ?_ _ _ ?_)<;>(first|omega|assumption|((rw [YF (by omega),← hw]))|(simp only [*,List.map_append,List.length_append,List.length_cons,List.length_nil,List.map_cons,List.map_nil];done)|(simp_all;done)|(simp_all;omega)))|( exact hqe (by omega))|refine qq rfl ?_)
theorem Ww (s : List TPkg) (hs : s.length ≤ 2000000) (hp0 : PL s) (hpt : yy s) : ∀ i, i ≤ s.length → ∀ (w : List Int), w = yV s i → ∀ (k : Int) (c : Nat), k = i →
    Ev (fun n => Yk (qd prg n) (n + 1) 0 (n + 1 - c) (.sl 4 (s.map zh)) (.osl 1) (iI k) [.arr false 1 [], .arr false 1 (w.map iI)]) (Is (.osl 0) [.arr false 1 ((zj s).map iI)]) := by
  refine zC ?_
  intro i hi ih w hw k c hk
  subst hk
  (refine UL48_7 ?_; unfold qdR)
  repeat' (first|((with_reducible refine eB ?_);first|((with_reducible refine zf ?_ ?_)<;>intro h<;>try (exfalso;omega))|refine qe rfl ?_|refine qb rfl ?_)|((with_reducible refine eL ?_);first|((with_reducible refine qI ?_ ?_);· rfl)|refine qy rfl rfl ?_|refine qG rfl rfl ?_|refine qz rfl rfl rfl ?_|refine qJ rfl rfl ?_|refine qH rfl rfl ?_|refine qK rfl ?_|refine qe rfl ?_|refine qb rfl ?_)|((with_reducible refine eK ?_);first|(with_reducible first|refine qT ?_|refine qU ?_)|((with_reducible refine qr ?_ ?_)<;>intro h))|((with_reducible refine eD ?_);first|refine qe rfl ?_|refine qb rfl ?_)|( exact ZU s hs hp0 hpt _ i (by omega) w (by rw [hw];exact xX _ _) (ih (by omega) _ (by rw [Qy (by omega),hw]) _ _ rfl) 0 (by omega) w rfl 0 0 rfl)|refine qq rfl ?_)
  all_goals exact ⟨rfl, by rw [hw, show i = s.length by omega, xW]⟩
theorem xC (s : List TPkg) (hs : s.length ≤ 2000000) (hp0 : PL s) (hpt : yy s) : Ex (fun m => qd prg m 48 [.sl 4 (s.map zh)] []) (.osl 0) [.arr false 1 ((zj s).map iI)] := by
  refine zz.1 ?_
  (refine U48 (nl := 0) rfl ?_; unfold B48)
  repeat' (first|((with_reducible refine eB ?_);first|((with_reducible refine zf ?_ ?_)<;>intro h<;>try (exfalso;omega))|((with_reducible refine zi ?_ ?_);· omega)|refine qe rfl ?_|refine qb rfl ?_)|((with_reducible refine eL ?_);first|((with_reducible refine qI ?_ ?_);· rfl)|refine qy rfl rfl ?_|refine qG rfl rfl ?_|refine qz rfl rfl rfl ?_|refine qJ rfl rfl ?_|refine qH rfl rfl ?_|refine qK rfl ?_|refine qe rfl ?_|refine qb rfl ?_)|((with_reducible refine eI ?_);first|((with_reducible refine q5 ?_ ?_ ?_);(·rfl);· omega)|(refine qN rfl rfl ?_ ?_;(·first|omega|(simp only [List.length_cons,List.length_nil,List.length_map,List.length_append];omega)))|(refine qO rfl rfl ?_ ?_;(focus omega))|((with_reducible refine q9 ?_ ?_ ?_);(·rfl);· omega)|(refine qS rfl rfl ?_ ?_;(·first|omega|(simp only [List.length_cons,List.length_nil,List.length_map,List.length_append];omega)))|(refine qW rfl rfl ?_ ?_;(focus omega))|refine qe rfl ?_|refine qb rfl ?_)|((with_reducible refine eK ?_);first|(with_reducible first|refine qT ?_|refine qU ?_)|((with_reducible refine qr ?_ ?_)<;>intro h))|((with_reducible refine eD ?_);first|refine qe rfl ?_|refine qb rfl ?_)|((with_reducible first|refine qip ?_|refine VL48_3 ?_);(unfold J0))|( exact Ww s hs hp0 hpt 0 (by omega) YE rfl _ 0 rfl)|refine qq rfl ?_)
theorem YG : Ex (fun m => qd prg m 49 [.sl 1 [iI (-1)], iI 6] []) (.osl 0) [.arr false 1 (YE.map iI)] := by
  refine ⟨20, fun n hn => ?_⟩
  obtain ⟨n, rfl⟩ : ∃ m, n = m + 20 := ⟨n - 20, by omega⟩
  show qd prg (n + 20) _ _ _ = _
  kernel_rfl
theorem Zv (s : List TPkg) (hs : s.length ≤ 2000000) (hp0 : PL s) (hpt : yy s) {Q : SV → List SO → Prop} (m5 : Nat → Nat) (i : Nat) (hi : i < s.length) (w0 : List Int) (hw0 : w0.length = 6)
    (hq : Ev (fun n => Wi (qd prg n) (n + 1) 0 (m5 n) (.osl 0) (.sl 4 (s.map zh)) (iI s.length) (iI ((i : Int) + 1)) [.arr false 1 ((KF w0 (nth s i).files).map iI)]) Q) : ∀ j, j ≤ (nth s i).files.length → ∀ (w : List Int), w = KF w0 ((nth s i).files.take j) → ∀ (k : Int) (c : Nat), k = j →
    Ev (fun n => qaV (qd prg n) (n + 1) 0 (m5 n) (n + 1 - c) [.osl 0, .sl 4 (s.map zh), iI s.length, iI i, .sl 2 ((nth s i).files.map wq), iI (nth s i).files.length, iI k] [.arr false 1 (w.map iI)]) Q := by
  have hpi := hp0 i
  have hpti := hpt i hi
  refine zC ?_
  intro j hj ih w hw k c hk
  subst hk
  have hwl : w.length = 6 := by rw [hw, Wv, hw0]
  have hptj := hpti j
  have hqe : j = (nth s i).files.length → Ev (fun n => Wi (qd prg n) (n + 1) 0 (m5 n) (.osl 0) (.sl 4 (s.map zh)) (iI s.length) (iI ((i : Int) + 1)) [.arr false 1 (w.map iI)]) Q := fun e => by
    rw [hw, e, List.take_length]; exact hq
  (refine UG21_8 _ ?_; unfold qdD)
  repeat' (first|((with_reducible refine eB ?_);first|((with_reducible refine zf ?_ ?_)<;>intro h<;>try (exfalso;omega))|((with_reducible refine zi ?_ ?_);· omega)|refine qe rfl ?_|refine qb rfl ?_)|((with_reducible refine eI ?_);first|((with_reducible refine q5 ?_ ?_ ?_);(·rfl);· omega)|(refine qN rfl rfl ?_ ?_;(·first|omega|(simp only [List.length_cons,List.length_nil,List.length_map,List.length_append];omega)))|(refine qO rfl rfl ?_ ?_;(focus omega))|((with_reducible refine q9 ?_ ?_ ?_);(·rfl);· omega)|(refine qS rfl rfl ?_ ?_;(·first|omega|(simp only [List.length_cons,List.length_nil,List.length_map,List.length_append];omega)))|(refine qW rfl rfl ?_ ?_;(focus omega))|refine qe rfl ?_|refine qb rfl ?_)|((with_reducible refine eK ?_);first|(with_reducible first|refine qT ?_|refine qU ?_)|((with_reducible refine qr ?_ ?_)<;>intro h))|((with_reducible refine eO ?_);first|refine qe rfl ?_|(refine qB rfl ?_ ?_<;>intro h<;>try (exfalso;simp_all;done))|refine qb rfl ?_|(refine qF rfl ?_ rfl ?_;(focus omega))|(refine qt rfl ?_ rfl ?_ ?_;(focus omega);(all_goals intro h)))|((with_reducible refine eD ?_);first|refine qe rfl ?_|refine qb rfl ?_|( (refine wr (f := iI) (a := (nth (nth s i).files j).data) rfl rfl rfl rfl rfl rfl rfl rfl ?_ rfl ?_;(focus omega))))|((with_reducible refine eH ?_);first|refine zA rfl ?_)|(with_reducible first|refine qes ?_|refine qij ?_)|((with_reducible refine ih ?_ _ ?_ _ _ ?_)<;>(first|omega|assumption|((rw [YF (by omega),← hw]))|(simp only [*,List.map_append,List.length_append,List.length_cons,List.length_nil,List.map_cons,List.map_nil];done)|(simp_all;done)|(simp_all;omega)))|( exact hqe (by omega))|refine qq rfl ?_)
theorem Zw (s : List TPkg) (hs : s.length ≤ 2000000) (hp0 : PL s) (hpt : yy s) : ∀ i, i ≤ s.length → ∀ (w : List Int), w = yV s i → ∀ (k : Int) (c : Nat), k = i →
    Ev (fun n => qaT (qd prg n) (n + 1) 0 (n + 1 - c) [.osl 0, .sl 4 (s.map zh), iI s.length, iI k] [.arr false 1 (w.map iI)]) (Is (.osl 0) [.arr false 1 ((zj s).map iI)]) := by
  refine zC ?_
  intro i hi ih w hw k c hk
  subst hk
  have hnext : i < s.length → ∀ c, Ev (fun n => Wi (qd prg n) (n + 1) 0 (n + 1 - c) (.osl 0) (.sl 4 (s.map zh)) (iI s.length) (iI ((i : Int) + 1)) [.arr false 1 ((KF w (nth s i).files).map iI)]) (Is (.osl 0) [.arr false 1 ((zj s).map iI)]) := by
    intro hi2 c
    repeat' (first|((with_reducible refine eG ?_);first|(with_reducible first|refine qX ?_|refine qY ?_|refine qZ ?_|refine q4 ?_|refine zm ?_)|refine qe rfl ?_|refine qb rfl ?_|((with_reducible refine zn ?_ ?_)<;>intro h))|((with_reducible refine eB ?_);first|((with_reducible first|refine zf ?_ ?_|refine xk ?_ ?_|refine ka ?_ ?_|refine wk ?_ ?_|refine zr ?_ ?_|refine kb ?_ ?_)<;>intro h<;>try (exfalso;omega))|((with_reducible first|refine zi ?_ ?_|refine kG ?_ ?_|refine JO ?_ ?_);· omega)|((with_reducible refine W8 ?_ ?_ ?_);(·omega);(·omega);intro x hx hx0 hx1)|((with_reducible refine jx ?_ ?_);(·omega);intro x hx hx0 hx1)|((with_reducible first|refine Wd ?_ ?_ ?_|refine We ?_ ?_ ?_|refine Wb ?_ ?_ ?_|refine Wc ?_ ?_ ?_);(·rfl);all_goals intro h)|refine qe rfl ?_|refine qb rfl ?_)|((with_reducible refine eL ?_);first|((with_reducible refine qI ?_ ?_);· rfl)|refine qy rfl rfl ?_|refine qG rfl rfl ?_|refine qz rfl rfl rfl ?_|refine qJ rfl rfl ?_|refine qH rfl rfl ?_|refine qK rfl ?_|refine qe rfl ?_|refine qb rfl ?_)|((with_reducible refine eI ?_);first|((with_reducible refine q5 ?_ ?_ ?_);(·rfl);· omega)|(refine qN rfl rfl ?_ ?_;(·first|omega|(simp only [List.length_cons,List.length_nil,List.length_map,List.length_append];omega)))|(refine qO rfl rfl ?_ ?_;(focus omega))|((with_reducible refine q9 ?_ ?_ ?_);(·rfl);· omega)|(refine qS rfl rfl ?_ ?_;(·first|omega|(simp only [List.length_cons,List.length_nil,List.length_map,List.length_append];omega)))|(refine qW rfl rfl ?_ ?_;(focus omega))|refine qe rfl ?_|refine qb rfl ?_)|((with_reducible refine eS ?_);first|((with_reducible first|refine wl ?_ ?_ ?_|refine wm ?_ ?_ ?_);(·rfl);· omega)|((first|refine kz rfl rfl ?_ ?_|refine kA rfl rfl ?_ ?_);(·first|omega|(simp only [List.length_cons,List.length_nil,List.length_map,List.length_append];omega)))|refine qe rfl ?_|refine qb rfl ?_)|((with_reducible refine eC ?_);first|fail)|(with_reducible refine yJ ?_)|((with_reducible refine eA ?_);first|(refine kU rfl rfl rfl rfl rfl ?_ ?_;· first|decide|(simp only [List.length_append,List.length_cons,List.length_nil,List.length_map,List.length_take,List.length_drop];omega)))|((with_reducible refine eV ?_);first|((with_reducible refine Zk ?_ ?_ ?_ ?_);(·rfl);(·rfl);· omega)|refine qe rfl ?_|refine qb rfl ?_)|((with_reducible refine eK ?_);first|(with_reducible first|refine qT ?_|refine qU ?_)|((with_reducible refine qr ?_ ?_)<;>intro h))|((with_reducible refine eO ?_);first|refine qe rfl ?_|(refine qB rfl ?_ ?_<;>intro h<;>try (exfalso;simp_all;done))|refine qb rfl ?_|(refine qF rfl ?_ rfl ?_;(focus omega))|(refine qt rfl ?_ rfl ?_ ?_;(focus omega);(all_goals intro h))|(refine zP rfl rfl rfl ?_ ?_ ?_;(·simp);(·first|omega|(simp only [List.length_cons,List.length_nil,List.length_map,List.length_append];omega));intro w))|((with_reducible refine eD ?_);first|refine qe rfl ?_|refine qb rfl ?_|((with_reducible refine qC ?_ ?_)<;>intro h))|((with_reducible refine zg ?_ ?_);· intro _;rfl)|((with_reducible refine eH ?_);first|refine zA rfl ?_)|(with_reducible first|refine qer ?_|refine qii ?_)|( exact ih hi2 _ (by rw [Qy (by omega),hw]) _ _ rfl)|refine qq rfl ?_)
  (refine UG21_5 _ ?_; unfold qdC)
  repeat' (first|((with_reducible refine eB ?_);first|((with_reducible refine zf ?_ ?_)<;>intro h<;>try (exfalso;omega))|refine qe rfl ?_|refine qb rfl ?_)|((with_reducible refine eL ?_);first|((with_reducible refine qI ?_ ?_);· rfl)|refine qy rfl rfl ?_|refine qG rfl rfl ?_|refine qz rfl rfl rfl ?_|refine qJ rfl rfl ?_|refine qH rfl rfl ?_|refine qK rfl ?_|refine qe rfl ?_|refine qb rfl ?_)|((with_reducible refine eI ?_);first|((with_reducible refine q5 ?_ ?_ ?_);(·rfl);· omega)|(refine qN rfl rfl ?_ ?_;(·first|omega|(simp only [List.length_cons,List.length_nil,List.length_map,List.length_append];omega)))|(refine qO rfl rfl ?_ ?_;(focus omega))|((with_reducible refine q9 ?_ ?_ ?_);(·rfl);· omega)|(refine qS rfl rfl ?_ ?_;(·first|omega|(simp only [List.length_cons,List.length_nil,List.length_map,List.length_append];omega)))|(refine qW rfl rfl ?_ ?_;(focus omega))|refine qe rfl ?_|refine qb rfl ?_)|((with_reducible refine eK ?_);first|(with_reducible first|refine qT ?_|refine qU ?_)|((with_reducible refine qr ?_ ?_)<;>intro h))|((with_reducible refine eO ?_);first|refine qe rfl ?_|(refine qB rfl ?_ ?_<;>intro h<;>try (exfalso;simp_all;done))|refine qb rfl ?_|(refine qF rfl ?_ rfl ?_;(focus omega))|(refine qt rfl ?_ rfl ?_ ?_;(focus omega);(all_goals intro h)))|((with_reducible refine eD ?_);first|refine qe rfl ?_|refine qb rfl ?_)|((with_reducible refine eH ?_);first|refine zA rfl ?_)|(with_reducible first|refine qes ?_|refine qij ?_)|( exact Zv s hs hp0 hpt _ i (by omega) w (by rw [hw];exact xX _ _) (hnext (by omega) _) 0 (by omega) w rfl 0 _ rfl)|refine qq rfl ?_)
  all_goals exact ⟨rfl, by rw [hw, show i = s.length by omega, xW]⟩
theorem wI (s : List TPkg) (hs : s.length ≤ 2000000) (hp0 : PL s) : Ex (fun m => qd prg m 21 [.sl 4 (s.map zh)] []) (.osl 0) [.arr false 1 ((kM s).map iI)] := by
  refine zz.1 ?_
  (refine U21 (nl := 0) rfl ?_; unfold B21)
  repeat' (first|((with_reducible refine eL ?_);first|((with_reducible refine qI ?_ ?_);· rfl)|refine qy rfl rfl ?_|refine qG rfl rfl ?_|refine qz rfl rfl rfl ?_|refine qJ rfl rfl ?_|refine qH rfl rfl ?_|refine qK rfl ?_|refine qe rfl ?_|refine qb rfl ?_)|((with_reducible refine eC ?_);first|((refine zT (xp s hs hp0) rfl rfl ?_ rfl rfl ?_ ?_);(focus first|exact .inl rfl|exact .inr rfl|(refine .inr ?_;simp [qo,qm,qh,qg,SO.hasSl,List.all_map,qi,SV.cells,Function.comp_def];done));(all_goals (intro h));(all_goals (try (exfalso;simp_all;done))))|((refine qk (YG ..) rfl rfl ?_ rfl ?_);(focus first|exact .inl rfl|exact .inr rfl|(refine .inr ?_;simp [qo,qm,qh,qg,SO.hasSl,List.all_map,qi,SV.cells,Function.comp_def];done))))|((with_reducible refine eK ?_);first|(with_reducible first|refine qT ?_|refine qU ?_)|((with_reducible refine qr ?_ ?_)<;>intro h))|((with_reducible refine eD ?_);first|refine qe rfl ?_|refine qb rfl ?_)|((with_reducible refine eH ?_);first|refine zA rfl ?_)|(with_reducible first|refine qer ?_|refine qii ?_)|( ((rw [show kM s = zj s from if_pos (by assumption)]);exact Zw s hs hp0 (kR (by assumption)) 0 (by omega) YE rfl _ _ rfl))|refine qq rfl ?_)
  all_goals exact ⟨rfl, by simp [kM, h]⟩
end Go.Proofs.Ytfjbclgbpdlkgaa

/- Disks: what is ok, what is true. -/
namespace Go.Proofs.Ytfjbclgbpdlkgaa
open Go
set_option linter.unusedVariables false
set_option linter.unusedSimpArgs false
set_option maxHeartbeats 4000000
def xP (l : List Int) (i : Nat) : Prop := -2 ≤ nth l i ∧ nth l i ≤ 9
instance (l : List Int) (i : Nat) : Decidable (xP l i) := by unfold xP; exact inferInstance
def wO (l : List Int) : Bool := decide (∀ i, i < l.length → xP l i)
def q7 (d : TDisk) : Bool := wO d.files && (decide (d.files.length = 6) && zo d.db && zo d.jour && (d.has || decide (d.jour = [])))
def diskTrue (d : TDisk) : Bool := q7 d && !d.has && decide (d.files = zj d.db)
theorem zI {d : TDisk} : q7 d = true ↔ wO d.files = true ∧ d.files.length = 6 ∧ zo d.db = true ∧ zo d.jour = true ∧ (d.has = true ∨ d.jour = []) := by
  simp [q7, and_assoc]
structure DLen (d : TDisk) : Prop where
  db : d.db.length ≤ 2000000
  dp : PL d.db
  fl : d.files.length ≤ 2000000
  jl : d.jour.length ≤ 2000000
  jp : PL d.jour
theorem Je (d : TDisk) (h : DLen d) : ∀ i, i ≤ d.files.length → (∀ j, j < i → xP d.files j) → ∀ (k : Int) (c : Nat), k = i →
    Ev (fun n => qaX (qd prg n) (n + 1) 0 (n + 1 - c) (.ptr 0 0) (iI k) [.box [.sl 4 (d.db.map zh), .sl 1 (d.files.map iI), bB d.has, .sl 4 (d.jour.map zh)]]) (Is (bB (q7 d)) []) := by
  have hfl := h.fl
  have hjl := h.jl
  refine zC ?_
  intro i hi ih hp k c hk
  subst hk
  have hall : ¬ i < d.files.length → q7 d = (decide (d.files.length = 6) && zo d.db && zo d.jour && (d.has || decide (d.jour = []))) := fun h9 => by
    unfold q7
    rw [show wO d.files = true from wn hp (by omega), Bool.true_and]
  obtain ⟨db, fs, has, jo⟩ := d
  have h1 := h.db
  have h2 := h.dp
  have h3 := h.jp
  dsimp only at h1 h2 h3 hfl hjl hi ih hp hall ⊢
  (refine UL27_2 ?_; unfold qdF)
  cases has
  all_goals repeat' (first|((with_reducible refine eG ?_);first|(with_reducible first|refine qX ?_|refine qY ?_|refine qZ ?_|refine q4 ?_|refine zm ?_)|refine qe rfl ?_|refine qb rfl ?_|((with_reducible refine zn ?_ ?_)<;>intro h))|((with_reducible refine eB ?_);first|((with_reducible first|refine zf ?_ ?_|refine zr ?_ ?_)<;>intro h<;>try (exfalso;omega))|((with_reducible refine zi ?_ ?_);· omega)|refine qe rfl ?_|refine qb rfl ?_)|((with_reducible refine eL ?_);first|((with_reducible refine qI ?_ ?_);· rfl)|refine qy rfl rfl ?_|refine qG rfl rfl ?_|refine qz rfl rfl rfl ?_|refine qJ rfl rfl ?_|refine qH rfl rfl ?_|refine qK rfl ?_|refine qe rfl ?_|refine qb rfl ?_)|((with_reducible refine eI ?_);first|((with_reducible refine q5 ?_ ?_ ?_);(·rfl);· omega)|(refine qN rfl rfl ?_ ?_;(·first|omega|(simp only [List.length_cons,List.length_nil,List.length_map,List.length_append];omega)))|(refine qO rfl rfl ?_ ?_;(focus omega))|((with_reducible refine q9 ?_ ?_ ?_);(·rfl);· omega)|(refine qS rfl rfl ?_ ?_;(·first|omega|(simp only [List.length_cons,List.length_nil,List.length_map,List.length_append];omega)))|(refine qW rfl rfl ?_ ?_;(focus omega))|refine qe rfl ?_|refine qb rfl ?_)|((with_reducible refine eC ?_);first|((refine zw (KB ..) rfl rfl ?_ rfl rfl ?_ ?_);(focus first|exact .inl rfl|exact .inr rfl|(refine .inr ?_;simp [qo,qm,qh,qg,SO.hasSl,List.all_map,qi,SV.cells,Function.comp_def];done));(all_goals (intro h));(all_goals (try (exfalso;first|omega|exact h rfl|exact h ⟨rfl,rfl,rfl⟩))))|((refine zT (xm db h1 h2) rfl rfl ?_ rfl rfl ?_ ?_);(focus first|exact .inl rfl|exact .inr rfl|(refine .inr ?_;simp [qo,qm,qh,qg,SO.hasSl,List.all_map,qi,SV.cells,Function.comp_def];done));(all_goals (intro h));(all_goals (try (exfalso;simp_all;done))))|((refine zT (xm jo hjl h3) rfl rfl ?_ rfl rfl ?_ ?_);(focus first|exact .inl rfl|exact .inr rfl|(refine .inr ?_;simp [qo,qm,qh,qg,SO.hasSl,List.all_map,qi,SV.cells,Function.comp_def];done));(all_goals (intro h));(all_goals (try (exfalso;simp_all;done)))))|((with_reducible refine eK ?_);first|(with_reducible first|refine qT ?_|refine qU ?_)|((with_reducible refine qr ?_ ?_)<;>intro h))|((with_reducible refine eO ?_);first|refine qe rfl ?_|(refine qB rfl ?_ ?_<;>intro h<;>try (exfalso;simp_all;done))|refine qb rfl ?_|(refine qF rfl ?_ rfl ?_;(focus omega))|(refine qt rfl ?_ rfl ?_ ?_;(focus omega);(all_goals intro h)))|((with_reducible refine eD ?_);first|refine qe rfl ?_|refine qb rfl ?_|((with_reducible refine qC ?_ ?_)<;>intro h))|((with_reducible refine ih ?_ (zR hp ?_) _ _ ?_)<;>(first|omega|assumption|((unfold xP;omega))|(simp only [*,List.map_append,List.length_append,List.length_cons,List.length_nil,List.map_cons,List.map_nil];done)|(simp_all;done)|(simp_all;omega)))|refine qq rfl ?_)
  all_goals first
    | (refine ⟨congrArg bB (Eq.symm ?_), rfl⟩; unfold q7; rw [show wO fs = false from kD (i := i) (by omega) (by unfold xP; omega)]; rfl)
    | (refine ⟨congrArg bB (Eq.symm ?_), rfl⟩; rw [hall (by omega)]; simp_all; done)
    | (refine ⟨congrArg bB (Eq.symm ?_), rfl⟩; rw [hall (by omega)]; simp_all; omega)
    | (refine ⟨congrArg bB (Eq.symm ?_), rfl⟩; rw [hall (by omega)]; have e9 : jo ≠ [] := (fun e => by subst e; simp at *); simp_all; done)
    | (refine ⟨congrArg bB (Eq.symm ?_), rfl⟩; rw [hall (by omega)]; have e9 : jo = [] := (List.length_eq_zero_iff.1 (by omega)); simp_all; done)
    | trace_state
theorem kN (d : TDisk) (h : DLen d) : Ex (fun m => qd prg m 27 [qR d] []) (bB (q7 d)) [] := by
  refine zz.1 ?_
  (refine U27 (nl := 0) rfl ?_; unfold B27)
  repeat' (first|((with_reducible refine eD ?_);first|refine qe rfl ?_|refine qb rfl ?_)|( exact Je d h 0 (by omega) (fun j hj => by omega) 0 0 rfl)|refine qq rfl ?_)
theorem qfe (x : Int) : Ex (fun m => qd prg m 50 [iI x] []) (bB (decide (¬ (-2 ≤ x ∧ x ≤ 9)))) [] := by
  refine zz.1 ?_
  (refine U50 (nl := 0) rfl ?_; unfold B50)
  repeat' (first|((with_reducible refine eC ?_);first|((refine zw (s_in ..) rfl rfl ?_ rfl rfl ?_ ?_);(focus first|exact .inl rfl|exact .inr rfl|(refine .inr ?_;simp [qo,qm,qh,qg,SO.hasSl,List.all_map,qi,SV.cells,Function.comp_def];done));(all_goals (intro h));(all_goals (try (exfalso;first|omega|exact h rfl|exact h ⟨rfl,rfl,rfl⟩)))))|((with_reducible refine eD ?_);first|refine qe rfl ?_|refine qb rfl ?_)|refine qq rfl ?_)
  all_goals (refine ⟨congrArg (fun b => SV.v (Value.bool b)) ?_, rfl⟩; first | (simp_all []; done) | (simp_all []; omega) | (simp [] at *; omega) | (simp []; omega) | grind [] | trace_state)
theorem qff (l : List Int) (hl : l.length ≤ 2000000) : ∀ i, i ≤ l.length → (∀ j, j < i → xP l j) → ∀ (k : Int) (c : Nat), k = i →
    Ev (fun n => qbo (qd prg n) (n + 1) 0 (n + 1 - c) (.sl 1 (l.map iI)) (.fn 50 []) (iI l.length) (iI k) []) (fun y os => ∃ z : Int, y = iI z ∧ os = [] ∧ (0 ≤ z ↔ ¬ wO l = true)) := by
  refine zC ?_
  intro i hi ih hp k c hk
  subst hk
  (refine UL77_2 ?_; unfold qd8)
  repeat' (first|((with_reducible refine eB ?_);first|((with_reducible refine zf ?_ ?_)<;>intro h<;>try (exfalso;omega))|((with_reducible refine zi ?_ ?_);· omega)|refine qe rfl ?_|refine qb rfl ?_)|((with_reducible refine eI ?_);first|((with_reducible refine q5 ?_ ?_ ?_);(·rfl);· omega)|(refine qN rfl rfl ?_ ?_;(·first|omega|(simp only [List.length_cons,List.length_nil,List.length_map,List.length_append];omega)))|(refine qO rfl rfl ?_ ?_;(focus omega))|((with_reducible refine q9 ?_ ?_ ?_);(·rfl);· omega)|(refine qS rfl rfl ?_ ?_;(·first|omega|(simp only [List.length_cons,List.length_nil,List.length_map,List.length_append];omega)))|(refine qW rfl rfl ?_ ?_;(focus omega))|refine qe rfl ?_|refine qb rfl ?_)|((with_reducible refine eC ?_);first|((refine zw (qfe _) rfl rfl ?_ rfl rfl ?_ ?_);(focus first|exact .inl rfl|exact .inr rfl|(refine .inr ?_;simp [qo,qm,qh,qg,SO.hasSl,List.all_map,qi,SV.cells,Function.comp_def];done));(all_goals (intro h));(all_goals (try (exfalso;first|omega|exact h rfl|exact h ⟨rfl,rfl,rfl⟩)))))|(with_reducible refine yJ ?_)|((with_reducible refine eK ?_);first|(with_reducible first|refine qT ?_|refine qU ?_)|((with_reducible refine qr ?_ ?_)<;>intro h))|((with_reducible refine eO ?_);first|refine qe rfl ?_|(refine qB rfl ?_ ?_<;>intro h<;>try (exfalso;simp_all;done))|refine qb rfl ?_|(refine qF rfl ?_ rfl ?_;(focus omega))|(refine qt rfl ?_ rfl ?_ ?_;(focus omega);(all_goals intro h)))|((with_reducible refine eD ?_);first|refine qe rfl ?_|refine qb rfl ?_)|((with_reducible refine ih ?_ (zR hp ?_) _ _ ?_)<;>(first|omega|assumption|((exact Decidable.not_not.1 h))|(simp only [*,List.map_append,List.length_append,List.length_cons,List.length_nil,List.map_cons,List.map_nil];done)|(simp_all;done)|(simp_all;omega)))|refine qq rfl ?_)
  · exact ⟨_, rfl, rfl, ⟨fun _ h9 => h (of_decide_eq_true h9 i (by omega)), fun _ => by omega⟩⟩
  · exact ⟨_, rfl, rfl, ⟨fun h9 => by omega, fun h9 => absurd (wn hp (by omega)) h9⟩⟩
theorem qll (l : List Int) (hl : l.length ≤ 2000000) : ∃ z : Int, (0 ≤ z ↔ ¬ wO l = true) ∧ Ex (fun m => qd prg m 77 [.sl 1 (l.map iI), .fn 50 []] []) (iI z) [] := by
  have key : Ev (fun m => qd prg m 77 [.sl 1 (l.map iI), .fn 50 []] []) (fun y os => ∃ z : Int, y = iI z ∧ os = [] ∧ (0 ≤ z ↔ ¬ wO l = true)) := by
    (refine U77 (nl := 0) rfl ?_; unfold B77)
    repeat' (first|((with_reducible refine eL ?_);first|((with_reducible refine qI ?_ ?_);· rfl)|refine qy rfl rfl ?_|refine qG rfl rfl ?_|refine qz rfl rfl rfl ?_|refine qJ rfl rfl ?_|refine qH rfl rfl ?_|refine qK rfl ?_|refine qe rfl ?_|refine qb rfl ?_)|((with_reducible refine eD ?_);first|refine qe rfl ?_|refine qb rfl ?_)|( exact qff l hl 0 (by omega) (fun j hj => by omega) 0 0 rfl)|refine qq rfl ?_)
  obtain ⟨_, _, ⟨z, rfl, rfl, hz⟩, he⟩ := key
  exact ⟨z, hz, he⟩
theorem qlm (l : List Int) (hl : l.length ≤ 2000000) : Ex (fun m => qd prg m 52 [.sl 1 (l.map iI), .fn 50 []] []) (bB (decide (¬ wO l = true))) [] := by
  refine zz.1 ?_
  (refine U52 (nl := 0) rfl ?_; unfold B52)
  repeat' (first|((with_reducible refine eB ?_);first|((with_reducible refine wk ?_ ?_)<;>intro h<;>try (exfalso;omega))|refine qe rfl ?_|refine qb rfl ?_)|((with_reducible refine eC ?_);first|((refine z5 (qll l hl) rfl rfl ?_ (fun _ => rfl) ?_);(·first|exact .inl rfl|exact .inr (fun _ => rfl));(first|(have q0 := z3;clear q0;intro z4 hz4)|(have q0 := z2;clear q0;intro z3 hz3)|(have q0 := z;clear q0;intro z2 hz2)|(intro z hz))))|((with_reducible refine eD ?_);first|refine qe rfl ?_|refine qb rfl ?_)|refine qq rfl ?_)
  · exact ⟨congrArg bB (decide_eq_true (hz.1 h)).symm, rfl⟩
  · exact ⟨congrArg bB (decide_eq_false fun h9 => h (hz.2 h9)).symm, rfl⟩
theorem w6 (d : TDisk) (h : DLen d) : Ex (fun m => qd prg m 19 [qR d] []) (bB (q7 d)) [] := by
  refine zz.1 ?_
  obtain ⟨db, fs, has, jo⟩ := d
  obtain ⟨h1, h2, h3, h4, h5⟩ := h
  dsimp only at h1 h2 h3 h4 h5
  (refine U19 (nl := 0) rfl ?_; unfold B19)
  cases has
  all_goals repeat' (first|((with_reducible refine eG ?_);first|(with_reducible first|refine qX ?_|refine qY ?_|refine qZ ?_|refine q4 ?_|refine zm ?_)|refine qe rfl ?_|refine qb rfl ?_|((with_reducible refine zn ?_ ?_)<;>intro h))|((with_reducible refine eB ?_);first|((with_reducible first|refine zr ?_ ?_|refine kb ?_ ?_)<;>intro h<;>try (exfalso;omega))|refine qe rfl ?_|refine qb rfl ?_)|((with_reducible refine eL ?_);first|((with_reducible refine qI ?_ ?_);· rfl)|refine qy rfl rfl ?_|refine qG rfl rfl ?_|refine qz rfl rfl rfl ?_|refine qJ rfl rfl ?_|refine qH rfl rfl ?_|refine qK rfl ?_|refine qe rfl ?_|refine qb rfl ?_)|((with_reducible refine eC ?_);first|((refine zw (qlm fs h3) rfl rfl ?_ rfl rfl ?_ ?_);(focus first|exact .inl rfl|exact .inr rfl|(refine .inr ?_;simp [qo,qm,qh,qg,SO.hasSl,List.all_map,qi,SV.cells,Function.comp_def];done));(all_goals (intro h));(all_goals (try (exfalso;first|omega|exact h rfl|exact h ⟨rfl,rfl,rfl⟩))))|((refine zT (xp db h1 h2) rfl rfl ?_ rfl rfl ?_ ?_);(focus first|exact .inl rfl|exact .inr rfl|(refine .inr ?_;simp [qo,qm,qh,qg,SO.hasSl,List.all_map,qi,SV.cells,Function.comp_def];done));(all_goals (intro h));(all_goals (try (exfalso;simp_all;done))))|((refine zT (xp jo h4 h5) rfl rfl ?_ rfl rfl ?_ ?_);(focus first|exact .inl rfl|exact .inr rfl|(refine .inr ?_;simp [qo,qm,qh,qg,SO.hasSl,List.all_map,qi,SV.cells,Function.comp_def];done));(all_goals (intro h));(all_goals (try (exfalso;simp_all;done)))))|((with_reducible refine eK ?_);first|(with_reducible first|refine qT ?_|refine qU ?_)|((with_reducible refine qr ?_ ?_)<;>intro h))|((with_reducible refine eO ?_);first|refine qe rfl ?_|(refine qB rfl ?_ ?_<;>intro h<;>try (exfalso;simp_all;done))|refine qb rfl ?_|(refine qF rfl ?_ rfl ?_;(focus omega))|(refine qt rfl ?_ rfl ?_ ?_;(focus omega);(all_goals intro h)))|((with_reducible refine eD ?_);first|refine qe rfl ?_|refine qb rfl ?_|((with_reducible refine qC ?_ ?_)<;>intro h))|refine qq rfl ?_)
  all_goals (refine ⟨congrArg bB (Eq.symm ?_), rfl⟩; unfold q7; dsimp only)
  all_goals first
    | (simp_all; done)
    | (simp_all; omega)
    | (have e9 : jo ≠ [] := (fun e => by subst e; simp at *); simp_all; done)
    | (have e9 : jo = [] := (List.length_eq_zero_iff.1 (by omega)); simp_all; done)
    | trace_state
theorem Jf (a b : List Int) (hl : a.length = b.length) (h47 : a.length ≤ 2000000) : ∀ i, i ≤ a.length → (∀ j, j < i → nth a j = nth b j) → ∀ (k : Int) (c : Nat), k = i →
    Ev (fun n => qa8 (qd prg n) (n + 1) 0 (n + 1 - c) (.sl 1 (a.map iI)) (.sl 1 (b.map iI)) (iI k) []) (Is (bB (decide (a = b))) []) := by
  refine zC ?_
  intro i hi ih hp k c hk
  subst hk
  (refine UL47_2 ?_; unfold qdQ)
  repeat' (first|((with_reducible refine eB ?_);first|((with_reducible first|refine zf ?_ ?_|refine kb ?_ ?_)<;>intro h<;>try (exfalso;omega))|((with_reducible refine zi ?_ ?_);· omega)|refine qe rfl ?_|refine qb rfl ?_)|((with_reducible refine eL ?_);first|((with_reducible refine qI ?_ ?_);· rfl)|refine qy rfl rfl ?_|refine qG rfl rfl ?_|refine qz rfl rfl rfl ?_|refine qJ rfl rfl ?_|refine qH rfl rfl ?_|refine qK rfl ?_|refine qe rfl ?_|refine qb rfl ?_)|((with_reducible refine eI ?_);first|((with_reducible refine q5 ?_ ?_ ?_);(·rfl);· omega)|(refine qN rfl rfl ?_ ?_;(·first|omega|(simp only [List.length_cons,List.length_nil,List.length_map,List.length_append];omega)))|(refine qO rfl rfl ?_ ?_;(focus omega))|((with_reducible refine q9 ?_ ?_ ?_);(·rfl);· omega)|(refine qS rfl rfl ?_ ?_;(·first|omega|(simp only [List.length_cons,List.length_nil,List.length_map,List.length_append];omega)))|(refine qW rfl rfl ?_ ?_;(focus omega))|refine qe rfl ?_|refine qb rfl ?_)|((with_reducible refine eK ?_);first|(with_reducible first|refine qT ?_|refine qU ?_)|((with_reducible refine qr ?_ ?_)<;>intro h))|((with_reducible refine eO ?_);first|refine qe rfl ?_|(refine qB rfl ?_ ?_<;>intro h<;>try (exfalso;simp_all;done))|refine qb rfl ?_|(refine qF rfl ?_ rfl ?_;(focus omega))|(refine qt rfl ?_ rfl ?_ ?_;(focus omega);(all_goals intro h)))|((with_reducible refine eD ?_);first|refine qe rfl ?_|refine qb rfl ?_)|((with_reducible refine ih ?_ (zR hp ?_) _ _ ?_)<;>(first|omega|assumption|(simp only [*,List.map_append,List.length_append,List.length_cons,List.length_nil,List.map_cons,List.map_nil];done)|(simp_all;done)|(simp_all;omega)))|refine qq rfl ?_)
  · exact ⟨congrArg bB (Eq.symm (decide_eq_false fun e => h (by rw [e]))), rfl⟩
  · exact ⟨congrArg bB (Eq.symm (decide_eq_true (yH hl fun j hj => hp j (by omega)))), rfl⟩
theorem qfg (a b : List Int) (hl : a.length = b.length) (h47 : a.length ≤ 2000000) : Ex (fun m => qd prg m 47 [.sl 1 (a.map iI), .sl 1 (b.map iI)] []) (bB (decide (a = b))) [] := by
  refine zz.1 ?_
  (refine U47 (nl := 0) rfl ?_; unfold B47)
  exact Jf a b hl h47 0 (by omega) (fun j hj => by omega) 0 0 rfl
theorem Zx (d : TDisk) (h : DLen d) : Ex (fun m => qd prg m 17 [qR d] []) (bB (diskTrue d)) [] := by
  refine zz.1 ?_
  have hD := kN d h
  cases hok : q7 d with
  | true =>
    obtain ⟨a1, a2, a3, a4, a5⟩ := zI.1 hok
    rw [hok] at hD
    have hS := qfg d.files (zj d.db) (by rw [a2, kv]) h.fl
    have hF := xC d.db h.db h.dp (kR a3)
    obtain ⟨db, fs, has, jo⟩ := d
    dsimp only at hS hF
    (refine U17 (nl := 0) rfl ?_; unfold B17)
    cases has
    all_goals repeat' (first|((with_reducible refine eG ?_);first|(with_reducible first|refine qX ?_|refine qY ?_|refine qZ ?_|refine q4 ?_|refine zm ?_)|refine qe rfl ?_|refine qb rfl ?_|((with_reducible refine zn ?_ ?_)<;>intro h))|((with_reducible refine eC ?_);first|((refine qk (hD ..) rfl rfl ?_ rfl ?_);(focus first|exact .inl rfl|exact .inr rfl|(refine .inr ?_;simp [qo,qm,qh,qg,SO.hasSl,List.all_map,qi,SV.cells,Function.comp_def];done)))|((refine qk (hF ..) rfl rfl ?_ rfl ?_);(focus first|exact .inl rfl|exact .inr rfl|(refine .inr ?_;simp [qo,qm,qh,qg,SO.hasSl,List.all_map,qi,SV.cells,Function.comp_def];done)))|((refine zw (hS ..) rfl rfl ?_ rfl rfl ?_ ?_);(focus first|exact .inl rfl|exact .inr rfl|(refine .inr ?_;simp [qo,qm,qh,qg,SO.hasSl,List.all_map,qi,SV.cells,Function.comp_def];done));(all_goals (intro h));(all_goals (try (exfalso;first|omega|exact h rfl|exact h ⟨rfl,rfl,rfl⟩)))))|((with_reducible refine eO ?_);first|refine qe rfl ?_|(refine qB rfl ?_ ?_<;>intro h<;>try (exfalso;simp_all;done))|refine qb rfl ?_|(refine qF rfl ?_ rfl ?_;(focus omega))|(refine qt rfl ?_ rfl ?_ ?_;(focus omega);(all_goals intro h)))|((with_reducible refine eD ?_);first|refine qe rfl ?_|refine qb rfl ?_|((with_reducible refine qC ?_ ?_)<;>intro h))|((with_reducible refine zg ?_ ?_);· intro _;rfl)|refine qq rfl ?_)
    all_goals (refine ⟨congrArg bB (Eq.symm ?_), rfl⟩; unfold diskTrue; rw [hok]; simp_all; done)
  | false =>
    rw [hok] at hD
    (refine U17 (nl := 0) rfl ?_; unfold B17)
    repeat' (first|((with_reducible refine eG ?_);first|(with_reducible first|refine qX ?_|refine qY ?_|refine qZ ?_|refine q4 ?_|refine zm ?_)|refine qe rfl ?_|refine qb rfl ?_|((with_reducible refine zn ?_ ?_)<;>intro h))|((with_reducible refine eC ?_);first|((refine qk (hD ..) rfl rfl ?_ rfl ?_);(focus first|exact .inl rfl|exact .inr rfl|(refine .inr ?_;simp [qo,qm,qh,qg,SO.hasSl,List.all_map,qi,SV.cells,Function.comp_def];done))))|((with_reducible refine eO ?_);first|refine qe rfl ?_|(refine qB rfl ?_ ?_<;>intro h<;>try (exfalso;simp_all;done))|refine qb rfl ?_|(refine qF rfl ?_ rfl ?_;(focus omega))|(refine qt rfl ?_ rfl ?_ ?_;(focus omega);(all_goals intro h)))|((with_reducible refine eD ?_);first|refine qe rfl ?_|refine qb rfl ?_|((with_reducible refine qC ?_ ?_)<;>intro h))|((with_reducible refine zg ?_ ?_);· intro _;rfl)|refine qq rfl ?_)
    all_goals (refine ⟨congrArg bB (Eq.symm ?_), rfl⟩; unfold diskTrue; rw [hok]; rfl)
theorem YH (a b : List Int) (hl : a.length = b.length) (h47 : a.length ≤ 2000000) : ∀ i, i ≤ a.length → (∀ j, j < i → nth a j = nth b j) → ∀ (k : Int) (c : Nat), k = i →
    Ev (fun n => qa7 (qd prg n) (n + 1) 0 (n + 1 - c) (.sl 1 (a.map iI)) (.sl 1 (b.map iI)) (iI a.length) (iI k) []) (Is (bB (decide (a = b))) []) := by
  refine zC ?_
  intro i hi ih hp k c hk
  subst hk
  (refine UL46_4 ?_; unfold qdP)
  repeat' (first|((with_reducible refine eB ?_);first|((with_reducible first|refine zf ?_ ?_|refine kb ?_ ?_)<;>intro h<;>try (exfalso;omega))|((with_reducible refine zi ?_ ?_);· omega)|refine qe rfl ?_|refine qb rfl ?_)|((with_reducible refine eI ?_);first|((with_reducible refine q5 ?_ ?_ ?_);(·rfl);· omega)|(refine qN rfl rfl ?_ ?_;(·first|omega|(simp only [List.length_cons,List.length_nil,List.length_map,List.length_append];omega)))|(refine qO rfl rfl ?_ ?_;(focus omega))|((with_reducible refine q9 ?_ ?_ ?_);(·rfl);· omega)|(refine qS rfl rfl ?_ ?_;(·first|omega|(simp only [List.length_cons,List.length_nil,List.length_map,List.length_append];omega)))|(refine qW rfl rfl ?_ ?_;(focus omega))|refine qe rfl ?_|refine qb rfl ?_)|((with_reducible refine eK ?_);first|(with_reducible first|refine qT ?_|refine qU ?_)|((with_reducible refine qr ?_ ?_)<;>intro h))|((with_reducible refine eO ?_);first|refine qe rfl ?_|(refine qB rfl ?_ ?_<;>intro h<;>try (exfalso;simp_all;done))|refine qb rfl ?_|(refine qF rfl ?_ rfl ?_;(focus omega))|(refine qt rfl ?_ rfl ?_ ?_;(focus omega);(all_goals intro h)))|((with_reducible refine eD ?_);first|refine qe rfl ?_|refine qb rfl ?_)|((with_reducible refine ih ?_ (zR hp ?_) _ _ ?_)<;>(first|omega|assumption|(simp only [*,List.map_append,List.length_append,List.length_cons,List.length_nil,List.map_cons,List.map_nil];done)|(simp_all;done)|(simp_all;omega)))|refine qq rfl ?_)
  · exact ⟨congrArg bB (Eq.symm (decide_eq_false fun e => h (by rw [e]))), rfl⟩
  · exact ⟨congrArg bB (Eq.symm (decide_eq_true (yH hl fun j hj => hp j (by omega)))), rfl⟩
theorem qb5 (a b : List Int) (h47 : a.length ≤ 2000000) : Ex (fun m => qd prg m 46 [.sl 1 (a.map iI), .sl 1 (b.map iI)] []) (bB (decide (a = b))) [] := by
  refine zz.1 ?_
  (refine U46 (nl := 0) rfl ?_; unfold B46)
  repeat' (first|((with_reducible refine eB ?_);first|((with_reducible refine kb ?_ ?_)<;>intro h<;>try (exfalso;omega))|refine qe rfl ?_|refine qb rfl ?_)|((with_reducible refine eL ?_);first|((with_reducible refine qI ?_ ?_);· rfl)|refine qy rfl rfl ?_|refine qG rfl rfl ?_|refine qz rfl rfl rfl ?_|refine qJ rfl rfl ?_|refine qH rfl rfl ?_|refine qK rfl ?_|refine qe rfl ?_|refine qb rfl ?_)|((with_reducible refine eK ?_);first|(with_reducible first|refine qT ?_|refine qU ?_)|((with_reducible refine qr ?_ ?_)<;>intro h))|((with_reducible refine eD ?_);first|refine qe rfl ?_|refine qb rfl ?_)|( exact YH a b (by omega) h47 0 (by omega) (fun j hj => by omega) 0 0 rfl)|refine qq rfl ?_)
  all_goals (refine ⟨congrArg bB (Eq.symm (decide_eq_false fun e => ?_)), rfl⟩; subst e; omega)
theorem yW (d : TDisk) (h : DLen d) : Ex (fun m => qd prg m 16 [qR d] []) (bB (diskTrue d)) [] := by
  refine zz.1 ?_
  have hD := w6 d h
  cases hok : q7 d with
  | true =>
    obtain ⟨a1, a2, a3, a4, a5⟩ := zI.1 hok
    rw [hok] at hD
    have hS := qb5 d.files (kM d.db) h.fl
    have hF := wI d.db h.db h.dp
    rw [show kM d.db = zj d.db from if_pos a3] at hS hF
    obtain ⟨db, fs, has, jo⟩ := d
    dsimp only at hS hF
    (refine U16 (nl := 0) rfl ?_; unfold B16)
    cases has
    all_goals repeat' (first|((with_reducible refine eG ?_);first|(with_reducible first|refine qX ?_|refine qY ?_|refine qZ ?_|refine q4 ?_|refine zm ?_)|refine qe rfl ?_|refine qb rfl ?_|((with_reducible refine zn ?_ ?_)<;>intro h))|((with_reducible refine eC ?_);first|((refine qk (hD ..) rfl rfl ?_ rfl ?_);(focus first|exact .inl rfl|exact .inr rfl|(refine .inr ?_;simp [qo,qm,qh,qg,SO.hasSl,List.all_map,qi,SV.cells,Function.comp_def];done)))|((refine qk (hF ..) rfl rfl ?_ rfl ?_);(focus first|exact .inl rfl|exact .inr rfl|(refine .inr ?_;simp [qo,qm,qh,qg,SO.hasSl,List.all_map,qi,SV.cells,Function.comp_def];done)))|((refine zw (hS ..) rfl rfl ?_ rfl rfl ?_ ?_);(focus first|exact .inl rfl|exact .inr rfl|(refine .inr ?_;simp [qo,qm,qh,qg,SO.hasSl,List.all_map,qi,SV.cells,Function.comp_def];done));(all_goals (intro h));(all_goals (try (exfalso;first|omega|exact h rfl|exact h ⟨rfl,rfl,rfl⟩)))))|((with_reducible refine eO ?_);first|refine qe rfl ?_|(refine qB rfl ?_ ?_<;>intro h<;>try (exfalso;simp_all;done))|refine qb rfl ?_|(refine qF rfl ?_ rfl ?_;(focus omega))|(refine qt rfl ?_ rfl ?_ ?_;(focus omega);(all_goals intro h)))|((with_reducible refine eD ?_);first|refine qe rfl ?_|refine qb rfl ?_|((with_reducible refine qC ?_ ?_)<;>intro h))|((with_reducible refine zg ?_ ?_);· intro _;rfl)|refine qq rfl ?_)
    all_goals (refine ⟨congrArg bB (Eq.symm ?_), rfl⟩; unfold diskTrue; rw [hok]; simp_all; done)
  | false =>
    rw [hok] at hD
    (refine U16 (nl := 0) rfl ?_; unfold B16)
    repeat' (first|((with_reducible refine eG ?_);first|(with_reducible first|refine qX ?_|refine qY ?_|refine qZ ?_|refine q4 ?_|refine zm ?_)|refine qe rfl ?_|refine qb rfl ?_|((with_reducible refine zn ?_ ?_)<;>intro h))|((with_reducible refine eC ?_);first|((refine qk (hD ..) rfl rfl ?_ rfl ?_);(focus first|exact .inl rfl|exact .inr rfl|(refine .inr ?_;simp [qo,qm,qh,qg,SO.hasSl,List.all_map,qi,SV.cells,Function.comp_def];done))))|((with_reducible refine eO ?_);first|refine qe rfl ?_|(refine qB rfl ?_ ?_<;>intro h<;>try (exfalso;simp_all;done))|refine qb rfl ?_|(refine qF rfl ?_ rfl ?_;(focus omega))|(refine qt rfl ?_ rfl ?_ ?_;(focus omega);(all_goals intro h)))|((with_reducible refine eD ?_);first|refine qe rfl ?_|refine qb rfl ?_|((with_reducible refine qC ?_ ?_)<;>intro h))|((with_reducible refine zg ?_ ?_);· intro _;rfl)|refine qq rfl ?_)
    all_goals (refine ⟨congrArg bB (Eq.symm ?_), rfl⟩; unfold diskTrue; rw [hok]; rfl)
abbrev rDisk (d : TDisk) : SV := .ag [.osl 0, .osl 1, bB d.has, .osl 2]
abbrev oDisk (d : TDisk) : List SO := [.arr false 4 (d.db.map zh), .arr false 1 (d.files.map iI), .arr false 4 (d.jour.map zh)]
def yX : TDisk := ⟨[], YE, false, []⟩
theorem qb6 : Ex (fun m => qd prg m 74 [] []) (rDisk yX) (oDisk yX) := by
  have hF := xC [] (by simp) (zK ko) (fun i h => by cases h)
  refine zz.1 ?_
  (refine U74 (nl := 0) rfl ?_; unfold B74)
  repeat' (first|((with_reducible refine eC ?_);first|((refine qk (hF ..) rfl rfl ?_ rfl ?_);(focus first|exact .inl rfl|exact .inr rfl|(refine .inr ?_;simp [qo,qm,qh,qg,SO.hasSl,List.all_map,qi,SV.cells,Function.comp_def];done))))|((with_reducible refine eO ?_);first|refine qe rfl ?_|(refine qB rfl ?_ ?_<;>intro h<;>try (exfalso;simp_all;done))|refine qb rfl ?_|(refine qF rfl ?_ rfl ?_;(focus omega))|(refine qt rfl ?_ rfl ?_ ?_;(focus omega);(all_goals intro h))|(refine zP rfl rfl rfl ?_ ?_ ?_;(·simp);(·first|omega|(simp only [List.length_cons,List.length_nil,List.length_map,List.length_append];omega));intro w))|((with_reducible refine eD ?_);first|refine qe rfl ?_|refine qb rfl ?_)|refine qq rfl ?_)
  all_goals exact ⟨rfl, rfl⟩
theorem qb7 : Ex (fun m => qd prg m 18 [] []) (rDisk yX) (oDisk yX) := by
  refine zz.1 ?_
  (refine U18 (nl := 0) rfl ?_; unfold B18)
  repeat' (first|((with_reducible refine eC ?_);first|((refine qk (YG ..) rfl rfl ?_ rfl ?_);(focus first|exact .inl rfl|exact .inr rfl|(refine .inr ?_;simp [qo,qm,qh,qg,SO.hasSl,List.all_map,qi,SV.cells,Function.comp_def];done))))|((with_reducible refine eO ?_);first|refine qe rfl ?_|(refine qB rfl ?_ ?_<;>intro h<;>try (exfalso;simp_all;done))|refine qb rfl ?_|(refine qF rfl ?_ rfl ?_;(focus omega))|(refine qt rfl ?_ rfl ?_ ?_;(focus omega);(all_goals intro h))|(refine zP rfl rfl rfl ?_ ?_ ?_;(·simp);(·first|omega|(simp only [List.length_cons,List.length_nil,List.length_map,List.length_append];omega));intro w))|((with_reducible refine eD ?_);first|refine qe rfl ?_|refine qb rfl ?_)|refine qq rfl ?_)
  all_goals exact ⟨rfl, rfl⟩
end Go.Proofs.Ytfjbclgbpdlkgaa

/- Disks: copies, steps, what a step does. -/
namespace Go.Proofs.Ytfjbclgbpdlkgaa
open Go
set_option linter.unusedVariables false
set_option linter.unusedSimpArgs false
set_option maxHeartbeats 4000000
theorem Jg (s : List TPkg) (hs : s.length ≤ 2000000) (hp0 : PL s) : ∀ i, i ≤ s.length → ∀ (L : List SV) (k : Int) (c : Nat), k = i → L = (s.take i).map zh →
    Ev (fun n => qbs (qd prg n) (n + 1) 0 (n + 1 - c) [.sl 4 (s.map zh), .osl 0, iI k] [.arr false 4 L]) (Is (.sl 4 (s.map zh)) []) := by
  refine zC ?_
  intro i hi ih L k c hk hL
  subst hk
  have hLl : L.length ≤ 2000000 := by rw [hL]; simp only [List.length_map, List.length_take]; omega
  subst hL
  (refine UG82_3 _ ?_; unfold qea)
  repeat' (first|((with_reducible refine eB ?_);first|((with_reducible refine zf ?_ ?_)<;>intro h<;>try (exfalso;omega))|((with_reducible refine zi ?_ ?_);· omega)|refine qe rfl ?_|refine qb rfl ?_)|((with_reducible refine eL ?_);first|((with_reducible refine qI ?_ ?_);· rfl)|refine qy rfl rfl ?_|refine qG rfl rfl ?_|refine qz rfl rfl rfl ?_|refine qJ rfl rfl ?_|refine qH rfl rfl ?_|refine qK rfl ?_|refine qe rfl ?_|refine qb rfl ?_)|((with_reducible refine eI ?_);first|((with_reducible refine q5 ?_ ?_ ?_);(·rfl);· omega)|(refine qN rfl rfl ?_ ?_;(·first|omega|(simp only [List.length_cons,List.length_nil,List.length_map,List.length_append];omega)))|(refine qO rfl rfl ?_ ?_;(focus omega))|((with_reducible refine q9 ?_ ?_ ?_);(·rfl);· omega)|(refine qS rfl rfl ?_ ?_;(·first|omega|(simp only [List.length_cons,List.length_nil,List.length_map,List.length_append];omega)))|(refine qW rfl rfl ?_ ?_;(focus omega))|refine qe rfl ?_|refine qb rfl ?_)|((with_reducible refine eC ?_);first|((refine qk (Qv _ _ _ _ (hp0 _).1 (hp0 _).2) rfl rfl ?_ rfl ?_);(focus first|exact .inl rfl|exact .inr rfl|(refine .inr ?_;simp [qo,qm,qh,qg,SO.hasSl,List.all_map,qi,SV.cells,Function.comp_def];done))))|((with_reducible refine eA ?_);first|(refine kU rfl rfl rfl rfl rfl ?_ ?_;· first|decide|(simp only [List.length_append,List.length_cons,List.length_nil,List.length_map,List.length_take,List.length_drop];omega)))|((with_reducible refine eK ?_);first|(with_reducible first|refine qT ?_|refine qU ?_)|((with_reducible refine qr ?_ ?_)<;>intro h))|((with_reducible refine eO ?_);first|refine qe rfl ?_|(refine qB rfl ?_ ?_<;>intro h<;>try (exfalso;simp_all;done))|refine qb rfl ?_|(refine qF rfl ?_ rfl ?_;(focus omega))|(refine qt rfl ?_ rfl ?_ ?_;(focus omega);(all_goals intro h))|(refine zP rfl rfl rfl ?_ ?_ ?_;(·simp);(·first|omega|(simp only [List.length_cons,List.length_nil,List.length_map,List.length_append];omega));intro w))|((with_reducible refine eD ?_);first|refine qe rfl ?_|refine qb rfl ?_)|((with_reducible refine eH ?_);first|refine zA rfl ?_)|(with_reducible first|refine qeE ?_|refine qiy ?_)|((with_reducible refine ih ?_ _ _ _ ?_ ?_)<;>(first|omega|assumption|((rw [jy (by omega)];(first|(simp only [List.map_append,List.map_cons,List.map_nil];done)|(simp only [List.map_append,List.map_cons,List.map_nil];rfl))))|(simp only [*,List.map_append,List.length_append,List.length_cons,List.length_nil,List.map_cons,List.map_nil];done)|(simp_all;done)|(simp_all;omega)))|refine qq rfl ?_)
  all_goals first
    | (rw [List.take_of_length_le (by omega)]; exact ⟨rfl, rfl⟩)
    | trace_state
theorem w7 (s : List TPkg) (hs : s.length ≤ 2000000) (hp0 : PL s) : Ex (fun m => qd prg m 82 [.sl 4 (s.map zh)] []) (.sl 4 (s.map zh)) [] := by
  refine zz.1 ?_
  (refine U82 (nl := 0) rfl ?_; unfold B82)
  repeat' (first|((with_reducible refine eD ?_);first|refine qe rfl ?_|refine qb rfl ?_)|((with_reducible refine eH ?_);first|refine zA rfl ?_)|(with_reducible first|refine qeE ?_|refine qiy ?_)|( exact Jg s hs hp0 0 (by omega) _ 0 _ rfl rfl)|refine qq rfl ?_)
theorem qb8 (s : List TPkg) (hs : s.length ≤ 2000000) (hp0 : PL s) : ∀ i, i ≤ s.length → ∀ (L : List SV) (k : Int) (c : Nat), k = i → L = (s.take i).map zh →
    Ev (fun n => qbm (qd prg n) (n + 1) 0 (n + 1 - c) [.osl 0, .sl 4 (s.map zh), iI s.length, iI k] [.arr false 4 L]) (Is (.sl 4 (s.map zh)) []) := by
  refine zC ?_
  intro i hi ih L k c hk hL
  subst hk
  have hLl : L.length ≤ 2000000 := by rw [hL]; simp only [List.length_map, List.length_take]; omega
  subst hL
  (refine UG73_3 _ ?_; unfold qd6)
  repeat' (first|((with_reducible refine eB ?_);first|((with_reducible refine zf ?_ ?_)<;>intro h<;>try (exfalso;omega))|((with_reducible refine zi ?_ ?_);· omega)|refine qe rfl ?_|refine qb rfl ?_)|((with_reducible refine eI ?_);first|((with_reducible refine q5 ?_ ?_ ?_);(·rfl);· omega)|(refine qN rfl rfl ?_ ?_;(·first|omega|(simp only [List.length_cons,List.length_nil,List.length_map,List.length_append];omega)))|(refine qO rfl rfl ?_ ?_;(focus omega))|((with_reducible refine q9 ?_ ?_ ?_);(·rfl);· omega)|(refine qS rfl rfl ?_ ?_;(·first|omega|(simp only [List.length_cons,List.length_nil,List.length_map,List.length_append];omega)))|(refine qW rfl rfl ?_ ?_;(focus omega))|refine qe rfl ?_|refine qb rfl ?_)|((with_reducible refine eC ?_);first|((refine qk (X2 _ _ _ _ (hp0 _).1 (hp0 _).2) rfl rfl ?_ rfl ?_);(focus first|exact .inl rfl|exact .inr rfl|(refine .inr ?_;simp [qo,qm,qh,qg,SO.hasSl,List.all_map,qi,SV.cells,Function.comp_def];done))))|((with_reducible refine eA ?_);first|(refine kU rfl rfl rfl rfl rfl ?_ ?_;· first|decide|(simp only [List.length_append,List.length_cons,List.length_nil,List.length_map,List.length_take,List.length_drop];omega)))|((with_reducible refine eK ?_);first|(with_reducible first|refine qT ?_|refine qU ?_)|((with_reducible refine qr ?_ ?_)<;>intro h))|((with_reducible refine eO ?_);first|refine qe rfl ?_|(refine qB rfl ?_ ?_<;>intro h<;>try (exfalso;simp_all;done))|refine qb rfl ?_|(refine qF rfl ?_ rfl ?_;(focus omega))|(refine qt rfl ?_ rfl ?_ ?_;(focus omega);(all_goals intro h))|(refine zP rfl rfl rfl ?_ ?_ ?_;(·simp);(·first|omega|(simp only [List.length_cons,List.length_nil,List.length_map,List.length_append];omega));intro w))|((with_reducible refine eD ?_);first|refine qe rfl ?_|refine qb rfl ?_)|((with_reducible refine eH ?_);first|refine zA rfl ?_)|(with_reducible first|refine qeC ?_|refine qiw ?_)|((with_reducible refine ih ?_ _ _ _ ?_ ?_)<;>(first|omega|assumption|((rw [jy (by omega)];(first|(simp only [List.map_append,List.map_cons,List.map_nil];done)|(simp only [List.map_append,List.map_cons,List.map_nil];rfl))))|(simp only [*,List.map_append,List.length_append,List.length_cons,List.length_nil,List.map_cons,List.map_nil];done)|(simp_all;done)|(simp_all;omega)))|refine qq rfl ?_)
  all_goals first
    | (rw [List.take_of_length_le (by omega)]; exact ⟨rfl, rfl⟩)
    | trace_state
theorem jF (s : List TPkg) (hs : s.length ≤ 2000000) (hp0 : PL s) : Ex (fun m => qd prg m 73 [.sl 4 (s.map zh)] []) (.sl 4 (s.map zh)) [] := by
  refine zz.1 ?_
  (refine U73 (nl := 0) rfl ?_; unfold B73)
  repeat' (first|((with_reducible refine eL ?_);first|((with_reducible refine qI ?_ ?_);· rfl)|refine qy rfl rfl ?_|refine qG rfl rfl ?_|refine qz rfl rfl rfl ?_|refine qJ rfl rfl ?_|refine qH rfl rfl ?_|refine qK rfl ?_|refine qe rfl ?_|refine qb rfl ?_)|((with_reducible refine eD ?_);first|refine qe rfl ?_|refine qb rfl ?_)|((with_reducible refine eH ?_);first|refine zA rfl ?_)|(with_reducible first|refine qeC ?_|refine qiw ?_)|( exact qb8 s hs hp0 0 (by omega) _ 0 _ rfl rfl)|refine qq rfl ?_)
def yj (t : TStep) : Prop := (t.kind = 1 ∨ t.kind = 3) ∧ t.path = 0 ∧ t.data = 0 ∧ zo t.pkgs = true ∨ t.kind = 2 ∧ (0 ≤ t.path ∧ t.path ≤ 5) ∧ (-1 ≤ t.data ∧ t.data ≤ 9) ∧ t.pkgs.length = 0 ∨ t.kind = 4 ∧ t.path = 0 ∧ t.data = 0 ∧ t.pkgs.length = 0
instance (t : TStep) : Decidable (yj t) := by unfold yj; exact inferInstance
def zO (t : TStep) : Bool := decide (yj t)
structure TLenS (t : TStep) : Prop where
  len : t.pkgs.length ≤ 2000000
  pl : PL t.pkgs
def doP (d : TDisk) (t : TStep) : TDisk :=
  if t.kind = 1 then { d with has := true, jour := t.pkgs } else if t.kind = 2 then { d with files := d.files.set t.path.toNat t.data } else if t.kind = 3 then { d with db := t.pkgs } else if t.kind = 4 then { d with has := false, jour := [] } else d
def kB (d : TDisk) (t : TStep) : TDisk :=
  if t.kind = 2 then { d with files := d.files.set t.path.toNat (-2) } else if t.kind = 3 then { d with db := [] } else d
def inD (d : TDisk) (t : TStep) : Prop := t.kind ≠ 2 ∨ 0 ≤ t.path ∧ t.path < d.files.length
abbrev jG (j : Nat) (d : TDisk) : SV := .ag [.sl 4 (d.db.map zh), .osl j, bB d.has, .sl 4 (d.jour.map zh)]
abbrev QE (j : Nat) (d : TDisk) : SO := .box [.sl 4 (d.db.map zh), .osl j, bB d.has, .sl 4 (d.jour.map zh)]
theorem Zy (t : TStep) (h : TLenS t) : Ex (fun m => qd prg m 55 [zc t] []) (bB (zO t)) [] := by
  refine zz.1 ?_
  obtain ⟨k, p, d, s⟩ := t
  obtain ⟨h1, h2⟩ := h
  dsimp only at h1 h2
  have hP := xm s h1 h2
  cases hpo : zo s
  all_goals rw [hpo] at hP
  all_goals (refine U55 (nl := 0) rfl ?_; unfold B55)
  all_goals repeat' (first|((with_reducible refine eG ?_);first|(with_reducible first|refine qX ?_|refine qY ?_|refine qZ ?_|refine q4 ?_|refine zm ?_)|refine qe rfl ?_|refine qb rfl ?_|((with_reducible refine zn ?_ ?_)<;>intro h))|((with_reducible refine eB ?_);first|((with_reducible refine zr ?_ ?_)<;>intro h<;>try (exfalso;omega))|refine qe rfl ?_|refine qb rfl ?_)|((with_reducible refine eL ?_);first|((with_reducible refine qI ?_ ?_);· rfl)|refine qy rfl rfl ?_|refine qG rfl rfl ?_|refine qz rfl rfl rfl ?_|refine qJ rfl rfl ?_|refine qH rfl rfl ?_|refine qK rfl ?_|refine qe rfl ?_|refine qb rfl ?_)|((with_reducible refine eC ?_);first|((refine zw (KB ..) rfl rfl ?_ rfl rfl ?_ ?_);(focus first|exact .inl rfl|exact .inr rfl|(refine .inr ?_;simp [qo,qm,qh,qg,SO.hasSl,List.all_map,qi,SV.cells,Function.comp_def];done));(all_goals (intro h));(all_goals (try (exfalso;first|omega|exact h rfl|exact h ⟨rfl,rfl,rfl⟩))))|((refine qk (hP ..) rfl rfl ?_ rfl ?_);(focus first|exact .inl rfl|exact .inr rfl|(refine .inr ?_;simp [qo,qm,qh,qg,SO.hasSl,List.all_map,qi,SV.cells,Function.comp_def];done))))|((with_reducible refine eK ?_);first|(with_reducible first|refine qT ?_|refine qU ?_)|((with_reducible refine qr ?_ ?_)<;>intro h))|((with_reducible refine eO ?_);first|refine qe rfl ?_|(refine qB rfl ?_ ?_<;>intro h<;>try (exfalso;simp_all;done))|refine qb rfl ?_|(refine qF rfl ?_ rfl ?_;(focus omega))|(refine qt rfl ?_ rfl ?_ ?_;(focus omega);(all_goals intro h)))|((with_reducible refine eD ?_);first|refine qe rfl ?_|refine qb rfl ?_|((with_reducible refine qC ?_ ?_)<;>intro h))|refine qq rfl ?_)
  all_goals first
    | (refine ⟨congrArg bB (Eq.symm ?_), rfl⟩; unfold zO; refine decide_eq_true ?_; unfold yj; dsimp only at *; simp only [hpo, Bool.false_eq_true, and_false, and_true, false_or]; omega)
    | (refine ⟨congrArg bB (Eq.symm ?_), rfl⟩; unfold zO; refine decide_eq_false ?_; unfold yj; dsimp only at *; simp only [hpo, Bool.false_eq_true, and_false, and_true, false_or]; omega)
    | trace_state
theorem Zz (t : TStep) (h : TLenS t) : Ex (fun m => qd prg m 58 [zc t] []) (bB (zO t)) [] := by
  refine zz.1 ?_
  obtain ⟨k, p, d, s⟩ := t
  obtain ⟨h1, h2⟩ := h
  dsimp only at h1 h2
  have hP := xp s h1 h2
  cases hpo : zo s
  all_goals rw [hpo] at hP
  all_goals (refine U58 (nl := 0) rfl ?_; unfold B58)
  all_goals repeat' (first|((with_reducible refine eG ?_);first|(with_reducible first|refine qX ?_|refine qY ?_|refine qZ ?_|refine q4 ?_|refine zm ?_)|refine qe rfl ?_|refine qb rfl ?_|((with_reducible refine zn ?_ ?_)<;>intro h))|((with_reducible refine eB ?_);first|((with_reducible refine zr ?_ ?_)<;>intro h<;>try (exfalso;omega))|refine qe rfl ?_|refine qb rfl ?_)|((with_reducible refine eL ?_);first|((with_reducible refine qI ?_ ?_);· rfl)|refine qy rfl rfl ?_|refine qG rfl rfl ?_|refine qz rfl rfl rfl ?_|refine qJ rfl rfl ?_|refine qH rfl rfl ?_|refine qK rfl ?_|refine qe rfl ?_|refine qb rfl ?_)|((with_reducible refine eC ?_);first|((refine zw (s_in ..) rfl rfl ?_ rfl rfl ?_ ?_);(focus first|exact .inl rfl|exact .inr rfl|(refine .inr ?_;simp [qo,qm,qh,qg,SO.hasSl,List.all_map,qi,SV.cells,Function.comp_def];done));(all_goals (intro h));(all_goals (try (exfalso;first|omega|exact h rfl|exact h ⟨rfl,rfl,rfl⟩))))|((refine qk (hP ..) rfl rfl ?_ rfl ?_);(focus first|exact .inl rfl|exact .inr rfl|(refine .inr ?_;simp [qo,qm,qh,qg,SO.hasSl,List.all_map,qi,SV.cells,Function.comp_def];done))))|((with_reducible refine eK ?_);first|(with_reducible first|refine qT ?_|refine qU ?_)|((with_reducible refine qr ?_ ?_)<;>intro h))|((with_reducible refine eO ?_);first|refine qe rfl ?_|(refine qB rfl ?_ ?_<;>intro h<;>try (exfalso;simp_all;done))|refine qb rfl ?_|(refine qF rfl ?_ rfl ?_;(focus omega))|(refine qt rfl ?_ rfl ?_ ?_;(focus omega);(all_goals intro h)))|((with_reducible refine eD ?_);first|refine qe rfl ?_|refine qb rfl ?_|((with_reducible refine qC ?_ ?_)<;>intro h))|((with_reducible refine qka ?_);(unfold XA))|refine qq rfl ?_)
  all_goals first
    | (refine ⟨congrArg bB (Eq.symm ?_), rfl⟩; unfold zO; refine decide_eq_true ?_; unfold yj; dsimp only at *; simp only [hpo, Bool.false_eq_true, and_false, and_true, false_or]; omega)
    | (refine ⟨congrArg bB (Eq.symm ?_), rfl⟩; unfold zO; refine decide_eq_false ?_; unfold yj; dsimp only at *; simp only [hpo, Bool.false_eq_true, and_false, and_true, false_or]; omega)
    | trace_state
theorem qfh (d : TDisk) (t : TStep) (ht : TLenS t) (hi : inD d t) (hf : d.files.length ≤ 2000000) : Ex (fun m => qd prg m 56 [jG 0 d, zc t] [.arr true 1 (d.files.map iI)]) (jG 0 (doP d t)) [.arr true 1 ((doP d t).files.map iI)] := by
  refine zz.1 ?_
  obtain ⟨h1, h2⟩ := ht
  unfold inD at hi
  (refine U56 (nl := 1) rfl ?_; unfold B56)
  repeat' (first|((with_reducible refine eB ?_);first|((with_reducible refine zr ?_ ?_)<;>intro h<;>try (exfalso;omega))|refine qe rfl ?_|refine qb rfl ?_)|((with_reducible refine eI ?_);first|((with_reducible refine q5 ?_ ?_ ?_);(·rfl);· omega)|(refine qN rfl rfl ?_ ?_;(·first|omega|(simp only [List.length_cons,List.length_nil,List.length_map,List.length_append];omega)))|(refine qO rfl rfl ?_ ?_;(focus omega))|((with_reducible refine q9 ?_ ?_ ?_);(·rfl);· omega)|(refine qS rfl rfl ?_ ?_;(·first|omega|(simp only [List.length_cons,List.length_nil,List.length_map,List.length_append];omega)))|(refine qW rfl rfl ?_ ?_;(focus omega))|refine qe rfl ?_|refine qb rfl ?_)|((with_reducible refine eC ?_);first|((refine qk (w7 t.pkgs h1 h2) rfl rfl ?_ rfl ?_);(focus first|exact .inl rfl|exact .inr rfl|(refine .inr ?_;simp [qo,qm,qh,qg,SO.hasSl,List.all_map,qi,SV.cells,Function.comp_def];done))))|((with_reducible refine eK ?_);first|(with_reducible first|refine qT ?_|refine qU ?_)|((with_reducible refine qr ?_ ?_)<;>intro h))|((with_reducible refine eO ?_);first|refine qe rfl ?_|(refine qB rfl ?_ ?_<;>intro h<;>try (exfalso;simp_all;done))|refine qb rfl ?_|(refine qF rfl ?_ rfl ?_;(focus omega))|(refine qt rfl ?_ rfl ?_ ?_;(focus omega);(all_goals intro h))|(refine zP rfl rfl rfl ?_ ?_ ?_;(·simp);(·first|omega|(simp only [List.length_cons,List.length_nil,List.length_map,List.length_append];omega));intro w))|((with_reducible refine eD ?_);first|refine qe rfl ?_|refine qb rfl ?_|( (refine wr (f := iI) (a := t.data) rfl rfl rfl rfl rfl rfl rfl rfl ?_ rfl ?_;(focus omega))))|((with_reducible refine qj9 ?_);(unfold Xz))|refine qq rfl ?_)
  all_goals first
    | (unfold doP; rw [if_pos (by omega)]; exact ⟨rfl, rfl⟩)
    | (unfold doP; rw [if_neg (by omega), if_pos (by omega)]; exact ⟨rfl, rfl⟩)
    | (unfold doP; rw [if_neg (by omega), if_neg (by omega), if_pos (by omega)]; exact ⟨rfl, rfl⟩)
    | (unfold doP; rw [if_neg (by omega), if_neg (by omega), if_neg (by omega), if_pos (by omega)]; exact ⟨rfl, rfl⟩)
    | (unfold doP; rw [if_neg (by omega), if_neg (by omega), if_neg (by omega), if_neg (by omega)]; exact ⟨rfl, rfl⟩)
    | trace_state
theorem YI (d : TDisk) (t : TStep) (hi : inD d t) (hf : d.files.length ≤ 2000000) : Ex (fun m => qd prg m 65 [jG 0 d, zc t] [.arr true 1 (d.files.map iI)]) (jG 0 (kB d t)) [.arr true 1 ((kB d t).files.map iI)] := by
  refine zz.1 ?_
  unfold inD at hi
  (refine U65 (nl := 1) rfl ?_; unfold B65)
  repeat' (first|((with_reducible refine eB ?_);first|((with_reducible refine zr ?_ ?_)<;>intro h<;>try (exfalso;omega))|refine qe rfl ?_|refine qb rfl ?_)|((with_reducible refine eI ?_);first|((with_reducible refine q5 ?_ ?_ ?_);(·rfl);· omega)|(refine qN rfl rfl ?_ ?_;(·first|omega|(simp only [List.length_cons,List.length_nil,List.length_map,List.length_append];omega)))|(refine qO rfl rfl ?_ ?_;(focus omega))|((with_reducible refine q9 ?_ ?_ ?_);(·rfl);· omega)|(refine qS rfl rfl ?_ ?_;(·first|omega|(simp only [List.length_cons,List.length_nil,List.length_map,List.length_append];omega)))|(refine qW rfl rfl ?_ ?_;(focus omega))|refine qe rfl ?_|refine qb rfl ?_)|((with_reducible refine eK ?_);first|(with_reducible first|refine qT ?_|refine qU ?_)|((with_reducible refine qr ?_ ?_)<;>intro h))|((with_reducible refine eO ?_);first|refine qe rfl ?_|(refine qB rfl ?_ ?_<;>intro h<;>try (exfalso;simp_all;done))|refine qb rfl ?_|(refine qF rfl ?_ rfl ?_;(focus omega))|(refine qt rfl ?_ rfl ?_ ?_;(focus omega);(all_goals intro h))|(refine zP rfl rfl rfl ?_ ?_ ?_;(·simp);(·first|omega|(simp only [List.length_cons,List.length_nil,List.length_map,List.length_append];omega));intro w))|((with_reducible refine eD ?_);first|refine qe rfl ?_|refine qb rfl ?_|( (refine wr (f := iI) (a := -2) rfl rfl rfl rfl rfl rfl rfl rfl ?_ rfl ?_;(focus omega))))|((with_reducible refine UJ65_6 ?_);(unfold qdZ))|refine qq rfl ?_)
  all_goals first
    | (unfold kB; rw [if_pos (by omega)]; exact ⟨rfl, rfl⟩)
    | (unfold kB; rw [if_neg (by omega), if_pos (by omega)]; exact ⟨rfl, rfl⟩)
    | (unfold kB; rw [if_neg (by omega), if_neg (by omega)]; exact ⟨rfl, rfl⟩)
    | trace_state
theorem s_doI (d : TDisk) (t : TStep) (ht : TLenS t) (hi : inD d t) (hf : d.files.length ≤ 2000000) : Ex (fun m => qd prg m 60 [.ptr 0 0, zc t] [QE 1 d, .arr true 1 (d.files.map iI)]) (.tup []) [QE 1 (doP d t), .arr true 1 ((doP d t).files.map iI)] := by
  refine zz.1 ?_
  obtain ⟨h1, h2⟩ := ht
  unfold inD at hi
  (refine U60 (nl := 2) rfl ?_; unfold B60)
  repeat' (first|((with_reducible refine eB ?_);first|((with_reducible refine zr ?_ ?_)<;>intro h<;>try (exfalso;omega))|refine qe rfl ?_|refine qb rfl ?_)|((with_reducible refine eI ?_);first|((with_reducible refine q5 ?_ ?_ ?_);(·rfl);· omega)|(refine qN rfl rfl ?_ ?_;(·first|omega|(simp only [List.length_cons,List.length_nil,List.length_map,List.length_append];omega)))|(refine qO rfl rfl ?_ ?_;(focus omega))|((with_reducible refine q9 ?_ ?_ ?_);(·rfl);· omega)|(refine qS rfl rfl ?_ ?_;(·first|omega|(simp only [List.length_cons,List.length_nil,List.length_map,List.length_append];omega)))|(refine qW rfl rfl ?_ ?_;(focus omega))|refine qe rfl ?_|refine qb rfl ?_)|((with_reducible refine eC ?_);first|((refine qk (jF t.pkgs h1 h2) rfl rfl ?_ rfl ?_);(focus first|exact .inl rfl|exact .inr rfl|(refine .inr ?_;simp [qo,qm,qh,qg,SO.hasSl,List.all_map,qi,SV.cells,Function.comp_def];done))))|((with_reducible refine eK ?_);first|(with_reducible first|refine qT ?_|refine qU ?_)|((with_reducible refine qr ?_ ?_)<;>intro h))|((with_reducible refine eO ?_);first|refine qe rfl ?_|(refine qB rfl ?_ ?_<;>intro h<;>try (exfalso;simp_all;done))|refine qb rfl ?_|(refine qF rfl ?_ rfl ?_;(focus omega))|(refine qt rfl ?_ rfl ?_ ?_;(focus omega);(all_goals intro h)))|((with_reducible refine eD ?_);first|refine qe rfl ?_|refine qb rfl ?_|( (refine wr (f := iI) (a := t.data) rfl rfl rfl rfl rfl rfl rfl rfl ?_ rfl ?_;(focus omega))))|refine qq rfl ?_)
  all_goals first
    | (unfold doP; rw [if_pos (by omega)]; exact ⟨rfl, rfl⟩)
    | (unfold doP; rw [if_neg (by omega), if_pos (by omega)]; exact ⟨rfl, rfl⟩)
    | (unfold doP; rw [if_neg (by omega), if_neg (by omega), if_pos (by omega)]; exact ⟨rfl, rfl⟩)
    | (unfold doP; rw [if_neg (by omega), if_neg (by omega), if_neg (by omega), if_pos (by omega)]; exact ⟨rfl, rfl⟩)
    | (unfold doP; rw [if_neg (by omega), if_neg (by omega), if_neg (by omega), if_neg (by omega)]; exact ⟨rfl, rfl⟩)
    | trace_state
theorem qfi (d : TDisk) (t : TStep) (hi : inD d t) (hf : d.files.length ≤ 2000000) : Ex (fun m => qd prg m 64 [.ptr 0 0, zc t] [QE 1 d, .arr true 1 (d.files.map iI)]) (.tup []) [QE 1 (kB d t), .arr true 1 ((kB d t).files.map iI)] := by
  refine zz.1 ?_
  unfold inD at hi
  (refine U64 (nl := 2) rfl ?_; unfold B64)
  repeat' (first|((with_reducible refine eB ?_);first|((with_reducible refine zr ?_ ?_)<;>intro h<;>try (exfalso;omega))|refine qe rfl ?_|refine qb rfl ?_)|((with_reducible refine eI ?_);first|((with_reducible refine q5 ?_ ?_ ?_);(·rfl);· omega)|(refine qN rfl rfl ?_ ?_;(·first|omega|(simp only [List.length_cons,List.length_nil,List.length_map,List.length_append];omega)))|(refine qO rfl rfl ?_ ?_;(focus omega))|((with_reducible refine q9 ?_ ?_ ?_);(·rfl);· omega)|(refine qS rfl rfl ?_ ?_;(·first|omega|(simp only [List.length_cons,List.length_nil,List.length_map,List.length_append];omega)))|(refine qW rfl rfl ?_ ?_;(focus omega))|refine qe rfl ?_|refine qb rfl ?_)|((with_reducible refine eK ?_);first|(with_reducible first|refine qT ?_|refine qU ?_)|((with_reducible refine qr ?_ ?_)<;>intro h))|((with_reducible refine eO ?_);first|refine qe rfl ?_|(refine qB rfl ?_ ?_<;>intro h<;>try (exfalso;simp_all;done))|refine qb rfl ?_|(refine qF rfl ?_ rfl ?_;(focus omega))|(refine qt rfl ?_ rfl ?_ ?_;(focus omega);(all_goals intro h)))|((with_reducible refine eD ?_);first|refine qe rfl ?_|refine qb rfl ?_|( (refine wr (f := iI) (a := -2) rfl rfl rfl rfl rfl rfl rfl rfl ?_ rfl ?_;(focus omega))))|refine qq rfl ?_)
  all_goals first
    | (unfold kB; rw [if_pos (by omega)]; exact ⟨rfl, rfl⟩)
    | (unfold kB; rw [if_neg (by omega), if_pos (by omega)]; exact ⟨rfl, rfl⟩)
    | (unfold kB; rw [if_neg (by omega), if_neg (by omega)]; exact ⟨rfl, rfl⟩)
    | trace_state
end Go.Proofs.Ytfjbclgbpdlkgaa
