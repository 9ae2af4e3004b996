/- What holds of what is at each place. -/
import Derived.Test.YtgeolifkmiglgaaV28
namespace Go.Proofs.Ytgeolifkmiglgaa
open Go
set_option linter.unusedVariables false
set_option linter.unusedSimpArgs false

/-- Files at places of their own. -/
structure FOk (F : List TFile) : Prop where
  rng : ∀ f, f ∈ F → (0 ≤ f.path ∧ f.path ≤ 5) ∧ 0 ≤ f.data
  one : F.Pairwise fun f g => f.path ≠ g.path
theorem FOk.tail {f : TFile} {F : List TFile} (h : FOk (f :: F)) : FOk F := ⟨fun g hg => h.rng g (List.mem_cons_of_mem _ hg), (List.pairwise_cons.1 h.one).2⟩
theorem putF_other {F : List TFile} : ∀ {w : List Int} {x : Nat}, FOk F → (∀ f, f ∈ F → f.path ≠ x) → nth (putF w F) x = nth w x := by
  induction F with
  | nil => intro w x _ _; rfl
  | cons f F ih =>
    intro w x h hx
    have h1 := ih (w := w.set f.path.toNat f.data) (x := x) h.tail fun g hg => hx g (List.mem_cons_of_mem _ hg)
    show nth (putF (w.set f.path.toNat f.data) F) x = _
    rw [h1, nth_set, if_neg]
    intro hh
    have := hx f (by simp)
    have := (h.rng f (by simp)).1
    omega
theorem putF_this {F : List TFile} : ∀ {w : List Int} {f : TFile}, w.length = 6 → FOk F → f ∈ F → nth (putF w F) f.path.toNat = f.data := by
  induction F with
  | nil => intro w f _ _ h; cases h
  | cons g F ih =>
    intro w f hw h hf
    show nth (putF (w.set g.path.toNat g.data) F) f.path.toNat = _
    rcases List.mem_cons.1 hf with rfl | hf
    · have hr := (h.rng f (by simp)).1
      rw [putF_other h.tail, nth_set, if_pos ⟨rfl, by omega⟩]
      intro g hg e
      have := (List.pairwise_cons.1 h.one).1 g hg
      omega
    · exact ih (by rw [List.length_set]; exact hw) h.tail hf
/-- How many places have nothing. -/
def cntN (w : List Int) : Nat := (w.filter fun x => decide (x = -1)).length
theorem cntN_set {w : List Int} {i : Nat} {d : Int} (hi : i < w.length) (h : nth w i = -1) (hd : d ≠ -1) : cntN (w.set i d) + 1 = cntN w := by
  induction w generalizing i with
  | nil => simp at hi
  | cons x w ih =>
    cases i with
    | zero =>
      have : x = -1 := h
      subst this
      simp [cntN, hd]
    | succ i =>
      have h1 := ih (i := i) (by simpa using hi) h
      unfold cntN at h1 ⊢
      rw [List.set_cons_succ, List.filter_cons, List.filter_cons]
      split
      · rw [List.length_cons, List.length_cons]; omega
      · exact h1
theorem putF_cnt {F : List TFile} : ∀ {w : List Int}, w.length = 6 → FOk F → (∀ f, f ∈ F → nth w f.path.toNat = -1) → cntN (putF w F) + F.length = cntN w := by
  induction F with
  | nil => intro w _ _ _; rfl
  | cons f F ih =>
    intro w hw h hn
    have hr := h.rng f (by simp)
    have h1 := ih (w := w.set f.path.toNat f.data) (by rw [List.length_set]; exact hw) h.tail fun g hg => by
      rw [nth_set, if_neg, hn g (List.mem_cons_of_mem _ hg)]
      intro hh
      have := (List.pairwise_cons.1 h.one).1 g hg
      have := (h.rng g (List.mem_cons_of_mem _ hg)).1
      omega
    have h2 := cntN_set (w := w) (i := f.path.toNat) (d := f.data) (by omega) (hn f (by simp)) (by omega)
    show cntN (putF (w.set f.path.toNat f.data) F) + _ = _
    rw [List.length_cons]; omega
theorem filesP_flat (s : List TPkg) : filesP s = putF none6 (s.flatMap (·.files)) := by
  unfold filesP putF
  rw [List.foldl_flatMap]
theorem mem_flat {s : List TPkg} {f : TFile} : f ∈ s.flatMap (·.files) ↔ ∃ p, p ∈ s ∧ f ∈ p.files := by simp [List.mem_flatMap]
theorem files_one {p : TPkg} (h : pkgOk p = true) : p.files.Pairwise fun f g => f.path ≠ g.path :=
  pw_nth.2 fun i j hij hj => by have := files_grow h j i hij hj; omega
theorem plan_FOk {s : List TPkg} (h : planOk s = true) : FOk (s.flatMap (·.files)) := by
  obtain ⟨h1, h2, h3, h4⟩ := plan_iff.1 h
  constructor
  · intro f hf
    obtain ⟨p, hp, hfp⟩ := mem_flat.1 hf
    obtain ⟨j, hj, rfl⟩ := mem_nth hfp
    have := (pkg_files (h1 p hp)).2 j hj
    unfold fileAt at this; omega
  · clear h2 h3 h
    induction s with
    | nil => simp
    | cons p s ih =>
      obtain ⟨a1, a2⟩ := List.pairwise_cons.1 h4
      rw [List.flatMap_cons, List.pairwise_append]
      refine ⟨files_one (h1 p (by simp)), ih (fun q hq => h1 q (List.mem_cons_of_mem _ hq)) a2, fun f hf g hg => ?_⟩
      obtain ⟨q, hq, hgq⟩ := mem_flat.1 hg
      exact fun e => a1 q hq f hf g hgq e.symm
theorem none6_nth {x : Nat} (h : x < 6) : nth none6 x = -1 := by
  obtain rfl | rfl | rfl | rfl | rfl | rfl : x = 0 ∨ x = 1 ∨ x = 2 ∨ x = 3 ∨ x = 4 ∨ x = 5 := by omega
  all_goals rfl
/-- Each file is at its place. -/
theorem files_at {s : List TPkg} (h : planOk s = true) {p : TPkg} (hp : p ∈ s) {f : TFile} (hf : f ∈ p.files) : nth (filesP s) f.path.toNat = f.data := by
  rw [filesP_flat]
  exact putF_this rfl (plan_FOk h) (mem_flat.2 ⟨p, hp, hf⟩)
theorem files_none {s : List TPkg} (h : planOk s = true) {x : Nat} (hx : x < 6) (hn : ∀ p, p ∈ s → ∀ f, f ∈ p.files → f.path ≠ x) : nth (filesP s) x = -1 := by
  rw [filesP_flat, putF_other (plan_FOk h), none6_nth hx]
  intro f hf
  obtain ⟨p, hp, hfp⟩ := mem_flat.1 hf
  exact hn p hp f hfp
theorem files_cnt {s : List TPkg} (h : planOk s = true) : cntN (filesP s) + (s.flatMap (·.files)).length = 6 := by
  rw [filesP_flat, putF_cnt rfl (plan_FOk h)]
  · rfl
  · intro f hf
    have := ((plan_FOk h).rng f hf).1
    exact none6_nth (by omega)
/-- What is at a place is a file's, or nothing is. -/
theorem files_what {s : List TPkg} (h : planOk s = true) {x : Nat} (hx : x < 6) : (∃ p, p ∈ s ∧ ∃ f, f ∈ p.files ∧ f.path = x ∧ nth (filesP s) x = f.data) ∨ ((∀ p, p ∈ s → ∀ f, f ∈ p.files → f.path ≠ x) ∧ nth (filesP s) x = -1) := by
  by_cases e : ∃ p, p ∈ s ∧ ∃ f, f ∈ p.files ∧ f.path = x
  · obtain ⟨p, hp, f, hf, e⟩ := e
    refine .inl ⟨p, hp, f, hf, e, ?_⟩
    have := files_at h hp hf
    rw [e] at this; simpa using this
  · have hn : ∀ p, p ∈ s → ∀ f, f ∈ p.files → f.path ≠ x := fun p hp f hf e2 => e ⟨p, hp, f, hf, e2⟩
    exact .inr ⟨hn, files_none h hx hn⟩
theorem flat_take_len {s : List TPkg} {i : Nat} (h : i < s.length) : ((s.take (i + 1)).flatMap (·.files)).length = ((s.take i).flatMap (·.files)).length + (nth s i).files.length := by
  rw [take_nth h, List.flatMap_append, List.length_append]; simp
theorem cntN_step {w : List Int} {i : Nat} (h : i < w.length) : cntN (w.take (i + 1)) = cntN (w.take i) + if nth w i = -1 then 1 else 0 := by
  unfold cntN
  rw [take_nth h, List.filter_append, List.length_append]
  by_cases e : nth w i = -1 <;> simp [e]

end Go.Proofs.Ytgeolifkmiglgaa
