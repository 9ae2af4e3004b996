/- What holds of the newest in a store. -/
import Derived.Test.YtgeolifkmiglgaaV20
namespace Go.Proofs.Ytgeolifkmiglgaa
open Go
set_option linter.unusedVariables false
set_option linter.unusedSimpArgs false

theorem qyes : QYes (.v (.bool true)) [] := rfl
theorem storeOk_iff {s : List TPkg} : storeOk s = true ↔ ∀ i, i < s.length → pkgAt s i := by simp [storeOk]
theorem store_grow {s : List TPkg} (h : storeOk s = true) : ∀ j i, i < j → j < s.length → pless (nth s i) (nth s j) := by
  intro j
  induction j with
  | zero => intro i hi; omega
  | succ j ih =>
    intro i hi hj
    have h1 := (storeOk_iff.1 h (j + 1) hj).2 (by omega)
    simp only [Nat.add_sub_cancel] at h1
    by_cases e : i = j
    · subst e; exact h1
    · have := ih i (by omega) (by omega)
      unfold pless at *; omega
theorem newest_true {s : List TPkg} {name : Int} {p : TPkg} (h : newestP s name = (p, true)) : p ∈ s ∧ p.name = name ∧ ∃ j, j < s.length ∧ p = nth s j ∧ ∀ i, j < i → i < s.length → (nth s i).name ≠ name := by
  unfold newestP at h
  split at h
  · rename_i h0
    obtain ⟨rfl, -⟩ := Prod.mk.inj h
    rcases newTo_spec s name s.length with ⟨h1, h2⟩ | ⟨h1, h2, h3, h4⟩
    · unfold newIx at h0; omega
    · have hlt : (newIx s name).toNat < s.length := by unfold newIx; omega
      refine ⟨nth_mem hlt, h3, _, hlt, rfl, fun i hi hi2 => h4 i ?_ hi2⟩
      unfold newIx at hi; omega
  · cases h
theorem newest_false {s : List TPkg} {name : Int} {p : TPkg} (h : newestP s name = (p, false)) : p = zPkg ∧ ∀ x, x ∈ s → x.name ≠ name := by
  unfold newestP at h
  split at h
  · cases h
  · rename_i h0
    obtain ⟨rfl, -⟩ := Prod.mk.inj h
    refine ⟨rfl, fun x hx => ?_⟩
    rcases newTo_spec s name s.length with ⟨h1, h2⟩ | ⟨h1, h2, h3, h4⟩
    · obtain ⟨j, hj, rfl⟩ := mem_nth hx
      exact h2 j hj
    · exact absurd h1 h0
theorem storeNewest_true {s : List TPkg} {name : Int} {p : TPkg} (h : storeNewest s name = (p, true)) : storeOk s = true ∧ newestP s name = (p, true) := by
  unfold storeNewest at h
  split at h
  · rename_i h0; exact ⟨h0, h⟩
  · cases h
theorem storeNewest_false {s : List TPkg} {name : Int} {p : TPkg} (h : storeNewest s name = (p, false)) (hs : storeOk s = true) : newestP s name = (p, false) := by
  unfold storeNewest at h
  rwa [if_pos hs] at h
theorem store_max {s : List TPkg} {name : Int} {p : TPkg} (hs : storeOk s = true) (h : newestP s name = (p, true)) {x : TPkg} (hx : x ∈ s) (hn : x.name = name) : x = p ∨ x.ver < p.ver := by
  obtain ⟨h1, h2, j, hj, rfl, h3⟩ := newest_true h
  obtain ⟨i, hi, rfl⟩ := mem_nth hx
  by_cases e : i = j
  · subst e; exact .inl rfl
  · have : i < j := by
      by_cases e2 : j < i
      · exact absurd hn (h3 i e2 hi)
      · omega
    have := store_grow hs j i this hj
    unfold pless at this
    right; omega
theorem newest_len {s : List TPkg} {name : Int} {p : TPkg} {ok : Bool} (h : newestP s name = (p, ok)) (hp : PL s) : p.files.length ≤ 2000000 ∧ p.deps.length ≤ 2000000 := by
  unfold newestP at h
  split at h
  · obtain ⟨rfl, -⟩ := Prod.mk.inj h; exact hp _
  · obtain ⟨rfl, -⟩ := Prod.mk.inj h; simp [zPkg]
theorem storeNewest_len {s : List TPkg} {name : Int} {p : TPkg} {ok : Bool} (h : storeNewest s name = (p, ok)) (hp : PL s) : p.files.length ≤ 2000000 ∧ p.deps.length ≤ 2000000 := by
  unfold storeNewest at h
  split at h
  · exact newest_len h hp
  · obtain ⟨rfl, -⟩ := Prod.mk.inj h; simp [zPkg]
theorem PL_filter {s : List TPkg} (h : smalls s) (f : TPkg → Bool) : smalls (s.filter f) := fun x hx => h x (List.mem_filter.1 hx).1
theorem store_inj {s : List TPkg} (hs : storeOk s = true) {i j : Nat} (hi : i < s.length) (hj : j < s.length) (h : nth s i = nth s j) : i = j := by
  by_cases h1 : i < j
  · have := store_grow hs j i h1 hj
    rw [h] at this; unfold pless at this; omega
  · by_cases h2 : j < i
    · have := store_grow hs i j h2 hi
      rw [h] at this; unfold pless at this; omega
    · omega
/-- One less, if the newest is struck. -/
theorem filter_one {s : List TPkg} (hs : storeOk s = true) {p : TPkg} (hp : p ∈ s) : (s.filter fun x => !decide (x = p)).length = s.length - 1 := by
  have key : ∀ k, k ≤ s.length → ((s.take k).filter fun x => !decide (x = p)).length + (if p ∈ s.take k then 1 else 0) = k := by
    intro k
    induction k with
    | zero => intro _; simp
    | succ k ih =>
      intro hk
      have h1 := ih (by omega)
      rw [take_nth (by omega), List.filter_append, List.length_append]
      by_cases e : nth s k = p
      · have hn : p ∉ s.take k := fun hm => by
          obtain ⟨j, hj, e'⟩ := mem_nth hm
          rw [List.length_take] at hj
          have h2 : nth (s.take k) j = nth s j := by
            unfold nth; simp only [List.getD_eq_getElem?_getD, List.getElem?_take]; rw [if_pos (by omega)]
          have := store_inj hs (i := j) (j := k) (by omega) (by omega) (by rw [← h2, e', e])
          omega
        rw [if_neg hn] at h1
        rw [if_pos (by simp [e])]
        simp [e]; omega
      · have e' : ¬ p = nth s k := fun z => e z.symm
        simp only [List.mem_append, List.mem_singleton, e', or_false]
        simp [e]; omega
  have := key s.length (Nat.le_refl _)
  rw [List.take_length, if_pos hp] at this
  omega

end Go.Proofs.Ytgeolifkmiglgaa
