/- More steps (parts of arrays appended, parts of arrays that are not written any more), and who has not signed. -/
import Derived.Test.YtjfegdlgepbjoaaV11
namespace Go.Proofs.Ytjfegdlgepbjoaa
open Go
set_option linter.unusedVariables false
set_option linter.unusedSimpArgs false
set_option maxHeartbeats 4000000

theorem ev_appvm {α : Type} {f : α → SV} {l' : List α} {T : Tab} {os os' : List SO} {t j j' lo hi sz by_ : Nat} {b b' : Bool} {l : List SV} {y : SV} {F : Nat → SV → List SO → Out} {Q} (ht : slBytes T t = some (sz, by_)) (hj : os[j]? = some (.arr b sz l)) (hj' : os[j']? = some (.arr b' sz (l'.map f))) (hb : Nat.blt 0 by_ = true)
    (hn : nf (some (.osl os.length, os.set j .dead ++ [.arr b sz (l ++ ((l'.take hi).drop lo).map f)])) = some (y, os')) (hlo : lo ≤ hi ∧ hi ≤ l'.length) (hle : by_ * (l.length + l'.length) ≤ 140737488355328) (h2 : Ev (fun n => F n y os') Q) :
    Ev (fun n => bd (appendS T os t t (.osl j) (.vw j' lo hi)) (F n)) Q := by
  obtain ⟨e, q, hu, hq, h3, h4⟩ := slBytes_spec ht
  dsimp only at h3 h4
  refine ev_bdx (x := .osl os.length) (os := os.set j .dead ++ [.arr b sz (l ++ ((l'.take hi).drop lo).map f)]) ?_ ?_
  · simp only [Nat.blt_eq] at hb
    have he : elems os (.vw j' lo hi) = some (sz, ((l'.take hi).drop lo).map f) := by
      have h9 : lo ≤ hi ∧ hi ≤ (l'.map f).length := by rw [List.length_map]; exact hlo
      simp only [elems, hj']
      rw [if_pos h9, List.map_drop, List.map_take]
    have hl : (((l'.take hi).drop lo).map f).length ≤ l'.length := by simp only [List.length_map, List.length_drop, List.length_take]; omega
    have : q.bytes * (l.length + (((l'.take hi).drop lo).map f).length) ≤ 2 ^ 47 := by
      rw [h4]
      exact Nat.le_trans (Nat.mul_le_mul_left _ (Nat.add_le_add_left hl _)) hle
    simp only [appendS, hu, hq, hj, he, h3]
    rw [if_pos ⟨trivial, trivial, this, by rw [h4]; exact hb⟩]
  · rw [nf_eq] at hn
    obtain ⟨rfl, rfl⟩ := Prod.mk.inj (Option.some.inj hn)
    exact h2
theorem ev_slfh {α : Type} {f : α → SV} {l : List α} {T : Tab} {os : List SO} {t sz j : Nat} {h : Int} {F : Nat → SV → List SO → Out} {Q} (hj : os[j]? = some (.frz sz (l.map f))) (hu : slSize T t = some sz) (h0 : 0 ≤ h ∧ h ≤ (l.length : Int)) (h2 : Ev (fun n => F n (.sl sz ((l.take h.toNat).map f)) os) Q) :
    Ev (fun n => bd (ret1 (sliceS T os t (.osl j) none (some (.v (.int .i64 h)))) os) (F n)) Q := by
  obtain ⟨e, q, hu, hq, hs⟩ := slSize_spec hu
  refine ev_bdx (x := .sl sz ((l.take h.toNat).map f)) (os := os) ?_ h2
  simp [sliceS, hu, hq, hj, boundS, h0.1, h0.2, hs, ret1, List.map_take]

theorem cnt_cons (x : Int) (xs : List Int) (v : Int) : cnt (x :: xs) v = (if v = x then 1 else 0) + cnt xs v := by
  have := cnt_app [x] xs v
  rw [cnt_one] at this
  exact this
theorem pairs_right (b : List Int) (x : Int) (xs : List Int) : pairs b (x :: xs) = cnt b x + pairs b xs := by
  induction b with
  | nil => rfl
  | cons y ys ih =>
    unfold pairs at ih ⊢
    rw [List.map_cons, List.sum_cons, ih, cnt_cons, cnt_cons, List.map_cons, List.sum_cons]
    by_cases e : y = x
    · rw [if_pos e, if_pos e.symm]; omega
    · rw [if_neg e, if_neg fun h => e h.symm]; omega
theorem pairs_swap (a b : List Int) : pairs a b = pairs b a := by
  induction a with
  | nil => induction b with
    | nil => rfl
    | cons y ys ih => rw [pairs_right, ih]; rfl
  | cons x xs ih => rw [pairs_right, ← ih]; rfl
/-- Fewer keys than are needed have not signed. -/
theorem few_not {r : TRoot} {n : Nat} (hn : (n : Int) < r.need) : rootSigned r (r.keys.take n) = false := by
  cases h : rootSigned r (r.keys.take n) with
  | false => rfl
  | true =>
    obtain ⟨h1, h2, h3⟩ := rootSigned_iff.1 h
    have hk := (rootOk_iff.1 h1).2.1
    rw [← pairs_both h2, pairs_swap, pairs_both hk] at h3
    have := both_le (r.keys.take n) r.keys
    have hl : (r.keys.take n).length ≤ n := by simp; omega
    omega
theorem trustIndex_few {t t' : TTrust} {x : TIndex} {b : List Int} {now : Int} {ok : Bool} (h : trustIndex t x b now = (t', ok)) (ht : trustOk t = true) (hn : 0 ≤ now ∧ now ≤ 60) (hs : rootSigned t.root b = false) : t = t' ∧ false = ok := by
  unfold trustIndex at h
  rw [if_pos ⟨ht, hn⟩, if_neg (by rw [hs]; simp)] at h
  cases h; exact ⟨rfl, rfl⟩
theorem trustRoot_few {t t' : TTrust} {s : TRoot} {b : List Int} {ok : Bool} (h : trustRoot t s b = (t', ok)) (ht : trustOk t = true) (hs : rootSigned t.root b = false) : t = t' ∧ false = ok := by
  unfold trustRoot at h
  rw [if_pos ht, if_neg (by unfold rootNext; rw [hs]; simp)] at h
  cases h; exact ⟨rfl, rfl⟩

end Go.Proofs.Ytjfegdlgepbjoaa
