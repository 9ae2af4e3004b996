/- A root that the old root's keys sign; roots one behind the other. -/
import Derived.Test.YtjfegdlgepbjoaaV12
namespace Go.Proofs.Ytjfegdlgepbjoaa
open Go
set_option linter.unusedVariables false
set_option linter.unusedSimpArgs false
set_option maxHeartbeats 4000000

theorem both_self (a : List Int) : both' a a = a.length := by
  unfold both'
  rw [List.filter_eq_self.2]
  intro x hx
  exact decide_eq_true hx
theorem trustOk_root {t : TTrust} (h : trustOk t = true) : rootOk t.root.num t.root.keys t.root.need = true := by
  unfold trustOk at h; simp only [Bool.and_eq_true] at h; exact h.1
theorem trustOk_with {t : TTrust} {r : TRoot} (h : trustOk t = true) (hr : rootOk r.num r.keys r.need = true) : trustOk ⟨r, t.has, t.index⟩ = true := by
  unfold trustOk at h ⊢
  simp only [Bool.and_eq_true] at h ⊢
  exact ⟨hr, h.2⟩
theorem trustRoot_yes {t : TTrust} {s : TRoot} {b : List Int} (ht : trustOk t = true) (hn : rootNext t.root s b = true) : trustRoot t s b = (⟨s, t.has, t.index⟩, true) := by
  unfold trustRoot
  rw [if_pos ht, if_pos hn]
/-- The next root, signed by the keys of the one before. -/
theorem next_own {r : TRoot} {need : Int} (hr : rootOk r.num r.keys r.need = true) (h9 : r.num ≠ 9) (hn : 1 ≤ need ∧ need ≤ r.keys.length) :
    rootOk (r.num + 1) r.keys need = true ∧ rootNext r ⟨r.num + 1, r.keys, need⟩ r.keys = true := by
  obtain ⟨h1, h2, h3⟩ := rootOk_iff.1 hr
  have h4 : rootOk (r.num + 1) r.keys need = true := rootOk_iff.2 ⟨by omega, h2, hn⟩
  refine ⟨h4, ?_⟩
  unfold rootNext
  simp only [Bool.and_eq_true, rootSigned_iff, decide_eq_true_eq]
  rw [both_self]
  exact ⟨⟨⟨hr, h2, h3.2⟩, h4, h2, hn.2⟩, trivial⟩
theorem trustApart {t t1 : TTrust} {x : TIndex} {b : List Int} {now need : Int} (h : trustIndex t x b now = (t1, true)) (h9 : t.root.num ≠ 9) (hn : 1 ≤ need ∧ need ≤ t.root.keys.length) :
    trustRoot t ⟨t.root.num + 1, t.root.keys, need⟩ t.root.keys = (⟨⟨t.root.num + 1, t.root.keys, need⟩, t.has, t.index⟩, true) ∧
    trustRoot ⟨t.root, true, x⟩ ⟨t.root.num + 1, t.root.keys, need⟩ t.root.keys = (⟨⟨t.root.num + 1, t.root.keys, need⟩, true, x⟩, true) ∧
    ∃ t5 ok5, trustIndex ⟨⟨t.root.num + 1, t.root.keys, need⟩, t.has, t.index⟩ x b now = (t5, ok5) ∧ ok5 = rootSigned ⟨t.root.num + 1, t.root.keys, need⟩ b ∧ (ok5 = true → t5 = ⟨⟨t.root.num + 1, t.root.keys, need⟩, true, x⟩) := by
  obtain ⟨rfl, ht, hnow, hx, hs, hl, hh, ht1⟩ := trustIndex_true h
  obtain ⟨h4, h5⟩ := next_own (trustOk_root ht) h9 hn
  refine ⟨trustRoot_yes ht h5, trustRoot_yes (t := ⟨t.root, true, x⟩) ht1 h5, ?_⟩
  have h6 : trustOk ⟨⟨t.root.num + 1, t.root.keys, need⟩, t.has, t.index⟩ = true := trustOk_with (r := ⟨t.root.num + 1, t.root.keys, need⟩) ht h4
  unfold trustIndex
  rw [if_pos ⟨h6, hnow⟩]
  by_cases hsg : rootSigned ⟨t.root.num + 1, t.root.keys, need⟩ b = true
  · rw [if_pos ⟨hx, hsg, hl, hh⟩]
    exact ⟨_, _, rfl, hsg.symm, fun _ => rfl⟩
  · rw [if_neg (fun z => hsg z.2.1)]
    exact ⟨_, _, rfl, by simpa using hsg, fun z => Bool.noConfusion z⟩

/-! ### roots one behind the other -/
theorem keys_all {l : List Int} (h : keysOk l = true) : both' l [1, 2, 3, 4, 5, 6] = l.length := by
  unfold both'
  rw [List.filter_eq_self.2]
  intro x hx
  obtain ⟨j, hj, rfl⟩ := mem_nth hx
  obtain ⟨h1, h2, -⟩ := keysOk_iff.1 h j hj
  simp only [List.mem_cons, List.not_mem_nil, or_false, decide_eq_true_eq]
  omega
theorem all_ok : keysOk [1, 2, 3, 4, 5, 6] = true := by decide
theorem signed_all {r : TRoot} : rootSigned r [1, 2, 3, 4, 5, 6] = rootOk r.num r.keys r.need := by
  cases h : rootOk r.num r.keys r.need with
  | false => simp [rootSigned, h]
  | true =>
    obtain ⟨-, h2, h3⟩ := rootOk_iff.1 h
    exact rootSigned_iff.2 ⟨h, all_ok, by rw [keys_all h2]; exact h3.2⟩
/-- A root that is two ahead is skipped by who has the first, and taken by who has the second. -/
theorem trustChain {t t1 : TTrust} {s : TRoot} {b : List Int} {ks : List Int} {need : Int} (h : trustRoot t s b = (t1, true)) :
    trustRoot t ⟨s.num + 1, ks, need⟩ [1, 2, 3, 4, 5, 6] = (t, false) ∧
    ∃ t4 ok4, trustRoot ⟨s, t.has, t.index⟩ ⟨s.num + 1, ks, need⟩ [1, 2, 3, 4, 5, 6] = (t4, ok4) ∧ ok4 = rootOk (s.num + 1) ks need ∧ (ok4 = true → t4.root = ⟨s.num + 1, ks, need⟩) := by
  obtain ⟨rfl, ht, hn, ht1, -⟩ := trustRoot_true h
  have hs : rootSigned s b = true ∧ s.num = t.root.num + 1 := by
    unfold rootNext at hn
    simp only [Bool.and_eq_true, decide_eq_true_eq] at hn
    exact ⟨hn.1.2, hn.2⟩
  constructor
  · unfold trustRoot
    rw [if_pos ht, if_neg]
    unfold rootNext
    simp only [Bool.and_eq_true, decide_eq_true_eq]
    intro z
    have := z.2
    omega
  · have h1 : rootNext s ⟨s.num + 1, ks, need⟩ [1, 2, 3, 4, 5, 6] = rootOk (s.num + 1) ks need := by
      unfold rootNext
      rw [signed_all, signed_all, rootOk_signed hs.1]
      simp
    unfold trustRoot
    rw [if_pos ht1]
    simp only [h1]
    cases hr : rootOk (s.num + 1) ks need with
    | true => exact ⟨_, _, rfl, rfl, fun _ => rfl⟩
    | false => exact ⟨_, _, rfl, rfl, fun z => Bool.noConfusion z⟩

end Go.Proofs.Ytjfegdlgepbjoaa
