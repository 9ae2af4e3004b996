/- Packages that can be in together, as a law of lists; one less. -/
import Derived.Test.YtgeolifkmiglgaaV26
namespace Go.Proofs.Ytgeolifkmiglgaa
open Go
set_option linter.unusedVariables false
set_option linter.unusedSimpArgs false

theorem pw_nth {α : Type} [Inhabited α] {R : α → α → Prop} {l : List α} : l.Pairwise R ↔ ∀ i j, i < j → j < l.length → R (nth l i) (nth l j) := by
  rw [List.pairwise_iff_getElem]
  have key : ∀ i (h : i < l.length), l[i] = nth l i := fun i h => by
    have := get_nth h
    rw [List.getElem?_eq_getElem h] at this
    exact Option.some.inj this
  constructor
  · intro h i j hij hj
    have := h i j (by omega) hj hij
    rwa [key, key] at this
  · intro h i j hi hj hij
    rw [key, key]; exact h i j hij hj
/-- No place is taken twice. -/
def apart (s : List TPkg) : Prop := s.Pairwise fun p q => ∀ f, f ∈ p.files → ∀ g, g ∈ q.files → g.path ≠ f.path
theorem plan_iff {s : List TPkg} : planOk s = true ↔ (∀ p, p ∈ s → pkgOk p = true) ∧ srt s ∧ (∀ p, p ∈ s → ∀ d, d ∈ p.deps → bearsP s d.name d.least) ∧ apart s := by
  rw [planOk_iff]
  constructor
  · rintro ⟨hs, hp⟩
    have hone : ∀ j i, i < j → j < s.length → (nth s i).name < (nth s j).name := by
      intro j
      induction j with
      | zero => intro i hi; omega
      | succ j ih =>
        intro i hi hj
        have h1 := (hp (j + 1) hj).1 (by omega)
        simp only [Nat.add_sub_cancel] at h1
        by_cases e : i = j
        · subst e; exact h1
        · have := ih i (by omega) (by omega); omega
    refine ⟨fun p h => ?_, pw_nth.2 fun i j hij hj => hone j i hij hj, fun p h d hd => ?_, pw_nth.2 fun i j hij hj f hf g hg e => ?_⟩
    · obtain ⟨i, hi, rfl⟩ := mem_nth h
      exact (storeOk_iff.1 hs i hi).1
    · obtain ⟨i, hi, rfl⟩ := mem_nth h
      obtain ⟨k, hk, rfl⟩ := mem_nth hd
      exact (hp i hi).2.1 k hk
    · obtain ⟨k, hk, rfl⟩ := mem_nth hg
      exact (hp j hj).2.2 k hk ⟨i, hij, f, hf, e.symm⟩
  · rintro ⟨h1, h2, h3, h4⟩
    have h2' := pw_nth.1 h2
    have h4' := pw_nth.1 h4
    refine ⟨storeOk_iff.2 fun i hi => ⟨h1 _ (nth_mem hi), fun h0 => .inl (h2' _ _ (by omega) hi)⟩, fun i hi => ⟨fun h0 => h2' _ _ (by omega) hi, fun k hk => h3 _ (nth_mem hi) _ (nth_mem hk), fun k hk => ?_⟩⟩
    rintro ⟨j, hj, f, hf, e⟩
    exact h4' j i hj hi f hf _ (nth_mem hk) e.symm
theorem srt_one {s : List TPkg} (h : srt s) {p q : TPkg} (hp : p ∈ s) (hq : q ∈ s) (e : p.name = q.name) : p = q := by
  obtain ⟨i, hi, rfl⟩ := mem_nth hp
  obtain ⟨j, hj, rfl⟩ := mem_nth hq
  have h' := pw_nth.1 h
  by_cases h1 : i < j
  · have := h' i j h1 hj; omega
  · by_cases h2 : j < i
    · have := h' j i h2 hi; omega
    · rw [show i = j by omega]
/-- Somebody else needs one. -/
def neededP (s : List TPkg) (k : Nat) : Prop := ∃ i, i < s.length ∧ i ≠ k ∧ ∃ d, d ∈ (nth s i).deps ∧ d.name = (nth s k).name
theorem mem_erase {s : List TPkg} {k : Nat} {p : TPkg} : p ∈ s.eraseIdx k ↔ ∃ i, i < s.length ∧ i ≠ k ∧ nth s i = p := by
  rw [List.mem_eraseIdx_iff_getElem?]
  constructor
  · rintro ⟨i, h1, h2⟩
    have hi : i < s.length := by
      by_cases h : i < s.length
      · exact h
      · rw [List.getElem?_eq_none (by omega)] at h2; cases h2
    rw [get_nth hi] at h2
    exact ⟨i, hi, h1, Option.some.inj h2⟩
  · rintro ⟨i, hi, h1, rfl⟩
    exact ⟨i, h1, get_nth hi⟩
theorem plan_less {s : List TPkg} {k : Nat} (h : planOk s = true) (hk : k < s.length) : planOk (s.eraseIdx k) = true ↔ ¬ neededP s k := by
  obtain ⟨h1, h2, h3, h4⟩ := plan_iff.1 h
  have hsub : (s.eraseIdx k).Sublist s := List.eraseIdx_sublist ..
  rw [plan_iff]
  constructor
  · rintro ⟨-, -, a3, -⟩ ⟨i, hi, hik, d, hd, e⟩
    obtain ⟨p, hp, e1, -⟩ := a3 _ (mem_erase.2 ⟨i, hi, hik, rfl⟩) d hd
    obtain ⟨j, hj, hjk, rfl⟩ := mem_erase.1 hp
    have hn := pw_nth.1 h2
    by_cases h5 : j < k
    · have := hn j k h5 hk; omega
    · have := hn k j (by omega) hj; omega
  · intro hn
    refine ⟨fun p hp => h1 p (hsub.subset hp), h2.sublist hsub, fun p hp d hd => ?_, h4.sublist hsub⟩
    obtain ⟨i, hi, hik, rfl⟩ := mem_erase.1 hp
    obtain ⟨q, hq, e1, e2⟩ := h3 _ (nth_mem hi) d hd
    obtain ⟨j, hj, rfl⟩ := mem_nth hq
    refine ⟨_, mem_erase.2 ⟨j, hj, fun e => ?_, rfl⟩, e1, e2⟩
    subst e
    exact hn ⟨i, hi, hik, d, hd, e1.symm⟩

end Go.Proofs.Ytgeolifkmiglgaa
