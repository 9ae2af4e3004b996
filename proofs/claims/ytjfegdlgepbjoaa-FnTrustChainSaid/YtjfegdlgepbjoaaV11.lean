/- What holds of trust that takes a root or an index. -/
import Derived.Test.YtjfegdlgepbjoaaV5
namespace Go.Proofs.Ytjfegdlgepbjoaa
open Go
set_option linter.unusedVariables false
set_option linter.unusedSimpArgs false
set_option maxHeartbeats 4000000

theorem TLen.k' {t : TTrust} (h : TLen t) : t.root.keys.length ≤ 140737488355328 := Nat.le_trans h.k (by decide)
theorem TLen.m' {t : TTrust} (h : TLen t) : t.index.metas.length ≤ 140737488355328 := Nat.le_trans h.m (by decide)
theorem zTrust_len : TLen zTrust := ⟨by simp [zTrust], by simp [zTrust]⟩
theorem trustRoot_len {t t' : TTrust} {s : TRoot} {b : List Int} {ok : Bool} (h : trustRoot t s b = (t', ok)) (hT : TLen t) (hs : s.keys.length ≤ 2000000) : TLen t' := by
  unfold trustRoot at h
  split at h
  · split at h <;> cases h
    · exact ⟨hs, hT.m⟩
    · exact hT
  · cases h; exact zTrust_len

theorem rootOk_signed {r : TRoot} {b : List Int} (h : rootSigned r b = true) : rootOk r.num r.keys r.need = true := (rootSigned_iff.1 h).1
theorem trustRoot_true {t t' : TTrust} {s : TRoot} {b : List Int} (h : trustRoot t s b = (t', true)) : t' = ⟨s, t.has, t.index⟩ ∧ trustOk t = true ∧ rootNext t.root s b = true ∧ trustOk ⟨s, t.has, t.index⟩ = true ∧ trustRoot ⟨s, t.has, t.index⟩ s b = (⟨s, t.has, t.index⟩, false) := by
  unfold trustRoot at h
  split at h
  · rename_i ht
    split at h
    · rename_i hn
      cases h
      have hs : rootSigned s b = true := by
        unfold rootNext at hn
        simp only [Bool.and_eq_true] at hn
        exact hn.1.2
      have h1 : trustOk ⟨s, t.has, t.index⟩ = true := by
        unfold trustOk at ht ⊢
        simp only [Bool.and_eq_true] at ht ⊢
        exact ⟨rootOk_signed hs, ht.2⟩
      refine ⟨rfl, ht, hn, h1, ?_⟩
      have h2 : rootNext s s b = false := by
        unfold rootNext
        rw [show decide (s.num = s.num + 1) = false from decide_eq_false (by omega), Bool.and_false]
      simp [trustRoot, h1, h2]
    · cases h
  · cases h
theorem trustRoot_false {t t' : TTrust} {s : TRoot} {b : List Int} (h : trustRoot t s b = (t', false)) (ht : trustOk t = true) : t' = t ∧ rootNext t.root s b = false := by
  unfold trustRoot at h
  rw [if_pos ht] at h
  split at h
  · cases h
  · rename_i hn
    cases h
    exact ⟨rfl, by simpa using hn⟩

theorem trustIndex_len {t t' : TTrust} {x : TIndex} {b : List Int} {now : Int} {ok : Bool} (h : trustIndex t x b now = (t', ok)) (hT : TLen t) (hx : x.metas.length ≤ 2000000) : TLen t' := by
  unfold trustIndex at h
  split at h
  · split at h <;> cases h
    · exact ⟨hT.k, hx⟩
    · exact hT
  · cases h; exact zTrust_len
/-- An index that is taken. -/
theorem trustIndex_true {t t' : TTrust} {x : TIndex} {b : List Int} {now : Int} (h : trustIndex t x b now = (t', true)) : t' = ⟨t.root, true, x⟩ ∧ trustOk t = true ∧ (0 ≤ now ∧ now ≤ 60) ∧ indexOk x.num x.til x.metas = true ∧ rootSigned t.root b = true ∧ ¬ x.til < now ∧ ¬ (t.has = true ∧ x.num ≤ t.index.num) ∧ trustOk ⟨t.root, true, x⟩ = true := by
  unfold trustIndex at h
  split at h
  · rename_i ht
    split at h
    · rename_i hn
      cases h
      refine ⟨rfl, ht.1, ht.2, hn.1, hn.2.1, hn.2.2.1, hn.2.2.2, ?_⟩
      have h1 := ht.1
      unfold trustOk at h1 ⊢
      simp only [Bool.and_eq_true] at h1 ⊢
      exact ⟨h1.1, by simp [hn.1]⟩
    · cases h
  · cases h
theorem trustIndex_false {t t' : TTrust} {x : TIndex} {b : List Int} {now : Int} (h : trustIndex t x b now = (t', false)) (ht : trustOk t = true) (hn : 0 ≤ now ∧ now ≤ 60) : t' = t := by
  unfold trustIndex at h
  rw [if_pos ⟨ht, hn⟩] at h
  split at h
  · cases h
  · cases h; rfl

theorem trustIndex_late {t t' : TTrust} {x : TIndex} {b : List Int} {ok : Bool} (h : trustIndex t x b (x.til + 1) = (t', ok)) : ok = false := by
  unfold trustIndex at h
  split at h
  · split at h
    · rename_i hn; have := hn.2.2.1; omega
    · cases h; rfl
  · cases h; rfl
theorem trustIndex_last {t t' t2 : TTrust} {x : TIndex} {b : List Int} {now : Int} {ok : Bool} (h1 : trustIndex t x b now = (t2, true)) (h : trustIndex t x b x.til = (t', ok)) : ok = true := by
  obtain ⟨-, ht, hn, hx, hs, hl, hh, -⟩ := trustIndex_true h1
  have := (indexOk_iff.1 hx).2.1
  unfold trustIndex at h
  rw [if_pos ⟨ht, this⟩, if_pos ⟨hx, hs, by omega, hh⟩] at h
  cases h; rfl
theorem trustIndex_elder {t t' : TTrust} {til : Int} {ms : List TMeta} {b : List Int} {now : Int} {ok : Bool} (h : trustIndex t ⟨t.index.num, til, ms⟩ b now = (t', ok)) (hh : t.has = true) : ok = false := by
  unfold trustIndex at h
  split at h
  · split at h
    · rename_i hn; exact absurd ⟨hh, Int.le_refl _⟩ hn.2.2.2
    · cases h; rfl
  · cases h; rfl
/-- The same again, or what was: not taken any more. -/
theorem trustIndex_again {t t' : TTrust} {x y : TIndex} {b : List Int} {now : Int} {ok : Bool} (h : trustIndex ⟨t.root, true, x⟩ y b now = (t', ok)) (hy : y.num ≤ x.num) : ok = false := by
  unfold trustIndex at h
  split at h
  · split at h
    · rename_i hn; exact absurd ⟨rfl, hy⟩ hn.2.2.2
    · cases h; rfl
  · cases h; rfl

end Go.Proofs.Ytjfegdlgepbjoaa
