/- The exact laws' own functions, over whole numbers. -/
import Derived.Test.YtjfegdlgepbjoaaTf
import Derived.Test.YtjfegdlgepbjoaaVd
namespace Go.Proofs.Ytjfegdlgepbjoaa
open Go
set_option linter.unusedVariables false
set_option linter.unusedSimpArgs false
set_option maxHeartbeats 4000000

theorem nth_set' {α : Type} [Inhabited α] (l : List α) (i j : Nat) (a : α) : nth (l.set i a) j = if i = j ∧ i < l.length then a else nth l j := by
  unfold nth
  simp only [List.getD_eq_getElem?_getD, List.getElem?_set]
  by_cases e : i = j
  · subst e
    by_cases h : i < l.length
    · simp [h]
    · simp [h]
  · simp [e]
/-- What a size leaves: below zero, if it is too much. -/
def left (n : Nat) (k : Int) : Int := if k - n < 0 then -1 else k - n
theorem left_neg {n : Nat} {k : Int} (h : left n k < 0) : k < n := by unfold left at h; split at h <;> omega
theorem left_ok {n : Nat} {k : Int} (h : ¬ left n k < 0) : left n k = k - n ∧ (n : Int) ≤ k := by
  unfold left at h ⊢
  split at h
  · omega
  · rename_i h1; rw [if_neg h1]; omega

theorem s_szIntS (l : List Int) (k : Int) (hl : l.length ≤ 9223372036854775807) (hk : -1 ≤ k ∧ k ≤ 1048576) : Ex (fun m => callF prg m 57 [.sl 1 (l.map iI), iI k] []) (iI (left l.length k)) [] := by
  refine ev_is.1 ?_
  (refine U57 (nl := 0) rfl ?_; unfold B57)
  repeat' (first | ((with_reducible refine eB ?_); first | ((with_reducible refine ev_lss ?_ ?_) <;> intro h <;> try (exfalso; omega)) | ((with_reducible refine ev_sub ?_ ?_); · omega) | refine ev_bd rfl ?_ | refine ev_bd0 rfl ?_) | ((with_reducible refine eL ?_); first | ((with_reducible refine ev_lenm ?_ ?_); · rfl) | refine ev_lenom rfl rfl ?_ | refine ev_lenfm rfl rfl ?_ | refine ev_lenoc rfl rfl rfl ?_ | refine ev_lenc rfl rfl ?_ | refine ev_leno rfl rfl ?_ | refine ev_slen rfl ?_ | refine ev_bd rfl ?_ | refine ev_bd0 rfl ?_) | ((with_reducible refine eK ?_); first | (with_reducible first | refine ev_ct ?_ | refine ev_cf ?_) | ((with_reducible refine ev_cond ?_ ?_) <;> intro h)) | ((with_reducible refine eD ?_); first | refine ev_bd rfl ?_ | refine ev_bd0 rfl ?_) | refine ev_ret rfl ?_)
  all_goals exact ⟨congrArg iI (by unfold left; split <;> omega), rfl⟩
theorem s_toIntS_L (l : List Int) (hl : l.length ≤ 2000000) : ∀ i, i ≤ l.length → ∀ (w : List Int), w.length = l.length → (∀ j, j < i → nth w j = nth l j) → ∀ (k : Int) (c : Nat), k = i →
    Ev (fun n => L58_3 (callF prg n) (n + 1) 0 (n + 1 - c) (.sl 1 (l.map iI)) (.osl 1) (iI k) [.arr false 1 [], .arr false 1 (w.map iI)]) (Is (.osl 0) [.arr false 1 (l.map iI)]) := by
  refine up_ind ?_
  intro i hi ih w hw hp k c hk
  subst hk
  (refine UL58_3 ?_; unfold LB58_3)
  repeat' (first | ((with_reducible refine eB ?_); first | ((with_reducible refine ev_lss ?_ ?_) <;> intro h <;> try (exfalso; omega)) | ((with_reducible refine ev_add ?_ ?_); · omega) | refine ev_bd rfl ?_ | refine ev_bd0 rfl ?_) | ((with_reducible refine eL ?_); first | ((with_reducible refine ev_lenm ?_ ?_); · rfl) | refine ev_lenom rfl rfl ?_ | refine ev_lenfm rfl rfl ?_ | refine ev_lenoc rfl rfl rfl ?_ | refine ev_lenc rfl rfl ?_ | refine ev_leno rfl rfl ?_ | refine ev_slen rfl ?_ | refine ev_bd rfl ?_ | refine ev_bd0 rfl ?_) | ((with_reducible refine eI ?_); first | ((with_reducible refine ev_idxn ?_ ?_ ?_); (· rfl); · omega) | (refine ev_idxon rfl rfl ?_ ?_; (· first | omega | (simp only [List.length_cons, List.length_nil, List.length_map, List.length_append]; omega))) | (refine ev_idxfn rfl rfl ?_ ?_; (focus omega)) | ((with_reducible refine ev_idx ?_ ?_ ?_); (· rfl); · omega) | (refine ev_idxo rfl rfl ?_ ?_; (· first | omega | (simp only [List.length_cons, List.length_nil, List.length_map, List.length_append]; omega))) | (refine ev_idxf rfl rfl ?_ ?_; (focus omega)) | refine ev_bd rfl ?_ | refine ev_bd0 rfl ?_) | ((with_reducible refine eK ?_); first | (with_reducible first | refine ev_ct ?_ | refine ev_cf ?_) | ((with_reducible refine ev_cond ?_ ?_) <;> intro h)) | ((with_reducible refine eO ?_); first | refine ev_bd rfl ?_ | (refine ev_bdB rfl ?_ ?_ <;> intro h <;> try (exfalso; simp_all; done)) | refine ev_bd0 rfl ?_ | (refine ev_ldm rfl ?_ rfl ?_; (focus omega)) | (refine ev_ldmB rfl ?_ rfl ?_ ?_; (focus omega); (all_goals intro h))) | ((with_reducible refine eD ?_); first | refine ev_bd rfl ?_ | refine ev_bd0 rfl ?_ | ( (refine ev_sto (f := iI) (a := nth l i) rfl rfl rfl rfl rfl rfl rfl rfl ?_ rfl ?_; (focus omega)))) | ((with_reducible refine ih ?_ _ ?_ ?_ _ _ ?_) <;> (first | omega | assumption | ((first | (rw [List.length_set]; exact hw) | (intro j hj; rw [nth_set']; split; (rename_i e; rw [e.1]); (rename_i e; exact hp j (by omega))))) | (simp only [*, List.map_append, List.length_append, List.length_cons, List.length_nil, List.map_cons, List.map_nil]; done) | (simp_all; done) | (simp_all; omega))) | refine ev_ret rfl ?_)
  all_goals (obtain rfl : w = l := eq_of_nth hw fun j hj => hp j (by omega))
  all_goals exact ⟨rfl, rfl⟩
theorem s_toIntS (l : List Int) (hl : l.length ≤ 2000000) : Ex (fun m => callF prg m 58 [.sl 1 (l.map iI)] []) (.osl 0) [.arr false 1 (l.map iI)] := by
  refine ev_is.1 ?_
  (refine U58 (nl := 0) rfl ?_; unfold B58)
  repeat' (first | ((with_reducible refine eL ?_); first | ((with_reducible refine ev_lenm ?_ ?_); · rfl) | refine ev_lenom rfl rfl ?_ | refine ev_lenfm rfl rfl ?_ | refine ev_lenoc rfl rfl rfl ?_ | refine ev_lenc rfl rfl ?_ | refine ev_leno rfl rfl ?_ | refine ev_slen rfl ?_ | refine ev_bd rfl ?_ | refine ev_bd0 rfl ?_) | ((with_reducible refine eD ?_); first | refine ev_bd rfl ?_ | refine ev_bd0 rfl ?_ | ( (refine ev_mk (f := iI) (z := 0) rfl rfl rfl ?_ ?_; (focus (dsimp only; omega))))) | ( exact s_toIntS_L l hl 0 (by omega) _ (by simp) (fun j hj => by omega) 0 0 rfl) | refine ev_ret rfl ?_)
theorem s_eqIntS_L (a b : List Int) (hl : a.length = b.length) (h47 : a.length ≤ 2000000) : ∀ i, i ≤ a.length → (∀ j, j < i → nth a j = nth b j) → ∀ (k : Int) (c : Nat), k = i →
    Ev (fun n => L60_4 (callF prg n) (n + 1) 0 (n + 1 - c) (.sl 1 (a.map iI)) (.sl 1 (b.map iI)) (iI k) []) (Is (bB (decide (a = b))) []) := by
  refine up_ind ?_
  intro i hi ih hp k c hk
  subst hk
  (refine UL60_4 ?_; unfold LB60_4)
  repeat' (first | ((with_reducible refine eB ?_); first | ((with_reducible first | refine ev_lss ?_ ?_ | refine ev_neq ?_ ?_) <;> intro h <;> try (exfalso; omega)) | ((with_reducible refine ev_add ?_ ?_); · omega) | refine ev_bd rfl ?_ | refine ev_bd0 rfl ?_) | ((with_reducible refine eL ?_); first | ((with_reducible refine ev_lenm ?_ ?_); · rfl) | refine ev_lenom rfl rfl ?_ | refine ev_lenfm rfl rfl ?_ | refine ev_lenoc rfl rfl rfl ?_ | refine ev_lenc rfl rfl ?_ | refine ev_leno rfl rfl ?_ | refine ev_slen rfl ?_ | refine ev_bd rfl ?_ | refine ev_bd0 rfl ?_) | ((with_reducible refine eI ?_); first | ((with_reducible refine ev_idxn ?_ ?_ ?_); (· rfl); · omega) | (refine ev_idxon rfl rfl ?_ ?_; (· first | omega | (simp only [List.length_cons, List.length_nil, List.length_map, List.length_append]; omega))) | (refine ev_idxfn rfl rfl ?_ ?_; (focus omega)) | ((with_reducible refine ev_idx ?_ ?_ ?_); (· rfl); · omega) | (refine ev_idxo rfl rfl ?_ ?_; (· first | omega | (simp only [List.length_cons, List.length_nil, List.length_map, List.length_append]; omega))) | (refine ev_idxf rfl rfl ?_ ?_; (focus omega)) | refine ev_bd rfl ?_ | refine ev_bd0 rfl ?_) | ((with_reducible refine eK ?_); first | (with_reducible first | refine ev_ct ?_ | refine ev_cf ?_) | ((with_reducible refine ev_cond ?_ ?_) <;> intro h)) | ((with_reducible refine eO ?_); first | refine ev_bd rfl ?_ | (refine ev_bdB rfl ?_ ?_ <;> intro h <;> try (exfalso; simp_all; done)) | refine ev_bd0 rfl ?_ | (refine ev_ldm rfl ?_ rfl ?_; (focus omega)) | (refine ev_ldmB rfl ?_ rfl ?_ ?_; (focus omega); (all_goals intro h))) | ((with_reducible refine eD ?_); first | refine ev_bd rfl ?_ | refine ev_bd0 rfl ?_) | ((with_reducible refine ih ?_ (all_step hp ?_) _ _ ?_) <;> (first | omega | assumption | (simp only [*, List.map_append, List.length_append, List.length_cons, List.length_nil, List.map_cons, List.map_nil]; done) | (simp_all; done) | (simp_all; omega))) | refine ev_ret rfl ?_)
  · exact ⟨congrArg bB (Eq.symm (decide_eq_false fun e => h (by rw [e]))), rfl⟩
  · exact ⟨congrArg bB (Eq.symm (decide_eq_true (eq_of_nth hl fun j hj => hp j (by omega)))), rfl⟩
theorem s_eqIntS (a b : List Int) (h47 : a.length ≤ 2000000) : Ex (fun m => callF prg m 60 [.sl 1 (a.map iI), .sl 1 (b.map iI)] []) (bB (decide (a = b))) [] := by
  refine ev_is.1 ?_
  (refine U60 (nl := 0) rfl ?_; unfold B60)
  repeat' (first | ((with_reducible refine eB ?_); first | ((with_reducible refine ev_neq ?_ ?_) <;> intro h <;> try (exfalso; omega)) | refine ev_bd rfl ?_ | refine ev_bd0 rfl ?_) | ((with_reducible refine eL ?_); first | ((with_reducible refine ev_lenm ?_ ?_); · rfl) | refine ev_lenom rfl rfl ?_ | refine ev_lenfm rfl rfl ?_ | refine ev_lenoc rfl rfl rfl ?_ | refine ev_lenc rfl rfl ?_ | refine ev_leno rfl rfl ?_ | refine ev_slen rfl ?_ | refine ev_bd rfl ?_ | refine ev_bd0 rfl ?_) | ((with_reducible refine eK ?_); first | (with_reducible first | refine ev_ct ?_ | refine ev_cf ?_) | ((with_reducible refine ev_cond ?_ ?_) <;> intro h)) | ((with_reducible refine eD ?_); first | refine ev_bd rfl ?_ | refine ev_bd0 rfl ?_) | ( exact s_eqIntS_L a b (by omega) h47 0 (by omega) (fun j hj => by omega) 0 0 rfl) | refine ev_ret rfl ?_)
  all_goals (refine ⟨congrArg bB (Eq.symm (decide_eq_false fun e => ?_)), rfl⟩; subst e; omega)
/-- What is marked. -/
def markI (k : Int) (n : Nat) : List Int := (List.range n).map fun i : Nat => k + (i : Int)
theorem markI_len (k : Int) (n : Nat) : (markI k n).length = n := by simp [markI]
theorem markI_nth {k : Int} {n i : Nat} (h : i < n) : nth (markI k n) i = k + i := by
  unfold markI nth
  rw [List.getD_eq_getElem?_getD, List.getElem?_map, List.getElem?_range h]; rfl
theorem s_markIntS_L (k0 : Int) (hk0 : 0 ≤ k0 ∧ k0 ≤ 100000000) (m : Nat) (hm : m ≤ 2000000) : ∀ i, i ≤ m → ∀ (w : List Int), w.length = m → (∀ j, j < i → nth w j = k0 + j) → ∀ (q k : Int) (c : Nat), k = i → q = k0 + i →
    Ev (fun n => L61_2 (callF prg n) (n + 1) 1 (n + 1 - c) (.osl 0) (iI q) (iI k) [.arr true 1 (w.map iI)]) (Is (iI (k0 + m)) [.arr true 1 ((markI k0 m).map iI)]) := by
  refine up_ind ?_
  intro i hi ih w hw hp q k c hk hq
  subst hk
  (refine UL61_2 ?_; unfold LB61_2)
  repeat' (first | ((with_reducible refine eB ?_); first | ((with_reducible refine ev_lss ?_ ?_) <;> intro h <;> try (exfalso; omega)) | ((with_reducible refine ev_add ?_ ?_); · omega) | refine ev_bd rfl ?_ | refine ev_bd0 rfl ?_) | ((with_reducible refine eL ?_); first | ((with_reducible refine ev_lenm ?_ ?_); · rfl) | refine ev_lenom rfl rfl ?_ | refine ev_lenfm rfl rfl ?_ | refine ev_lenoc rfl rfl rfl ?_ | refine ev_lenc rfl rfl ?_ | refine ev_leno rfl rfl ?_ | refine ev_slen rfl ?_ | refine ev_bd rfl ?_ | refine ev_bd0 rfl ?_) | ((with_reducible refine eI ?_); first | ((with_reducible refine ev_idxn ?_ ?_ ?_); (· rfl); · omega) | (refine ev_idxon rfl rfl ?_ ?_; (· first | omega | (simp only [List.length_cons, List.length_nil, List.length_map, List.length_append]; omega))) | (refine ev_idxfn rfl rfl ?_ ?_; (focus omega)) | ((with_reducible refine ev_idx ?_ ?_ ?_); (· rfl); · omega) | (refine ev_idxo rfl rfl ?_ ?_; (· first | omega | (simp only [List.length_cons, List.length_nil, List.length_map, List.length_append]; omega))) | (refine ev_idxf rfl rfl ?_ ?_; (focus omega)) | refine ev_bd rfl ?_ | refine ev_bd0 rfl ?_) | ((with_reducible refine eK ?_); first | (with_reducible first | refine ev_ct ?_ | refine ev_cf ?_) | ((with_reducible refine ev_cond ?_ ?_) <;> intro h)) | ((with_reducible refine eD ?_); first | refine ev_bd rfl ?_ | refine ev_bd0 rfl ?_ | ( (refine ev_sto (f := iI) (a := q) rfl rfl rfl rfl rfl rfl rfl rfl ?_ rfl ?_; (focus omega)))) | ((with_reducible refine ih ?_ _ ?_ ?_ _ _ _ ?_ ?_) <;> (first | omega | assumption | ((first | (rw [List.length_set]; exact hw) | (intro j hj; rw [nth_set']; split; (rename_i e; rw [← e.1]; omega); (rename_i e; exact hp j (by omega))))) | (simp only [*, List.map_append, List.length_append, List.length_cons, List.length_nil, List.map_cons, List.map_nil]; done) | (simp_all; done) | (simp_all; omega))) | refine ev_ret rfl ?_)
  all_goals (obtain rfl : w = markI k0 m := eq_of_nth (by rw [hw, markI_len]) fun j hj => by rw [markI_nth (by omega)]; exact hp j (by omega))
  all_goals exact ⟨congrArg iI (by omega), rfl⟩
theorem s_markIntS (l : List Int) (k0 : Int) (hk0 : 0 ≤ k0 ∧ k0 ≤ 100000000) (hl : l.length ≤ 2000000) : Ex (fun m => callF prg m 61 [.osl 0, iI k0] [.arr true 1 (l.map iI)]) (iI (k0 + l.length)) [.arr true 1 ((markI k0 l.length).map iI)] := by
  refine ev_is.1 ?_
  (refine U61 (nl := 1) rfl ?_; unfold B61)
  exact s_markIntS_L k0 hk0 l.length hl 0 (by omega) l rfl (fun j hj => by omega) _ 0 0 rfl (by simp)
theorem s_heldIntS_L (k0 : Int) (hk0 : 0 ≤ k0 ∧ k0 ≤ 100000000) (m : Nat) (hm : m ≤ 2000000) (w : List Int) (hw : w = markI k0 m) : ∀ i, i ≤ m → ∀ (q k : Int) (c : Nat), k = i → q = k0 + i →
    Ev (fun n => L90_2 (callF prg n) (n + 1) 0 (n + 1 - c) (.sl 1 (w.map iI)) (iI q) (iI k) []) (Is (iI (k0 + m)) []) := by
  have hwl : w.length = m := by rw [hw, markI_len]
  refine up_ind ?_
  intro i hi ih q k c hk hq
  subst hk
  have hn : i < m → nth w i = k0 + i := fun h => by rw [hw, markI_nth h]
  (refine UL90_2 ?_; unfold LB90_2)
  repeat' (first | ((with_reducible refine eB ?_); first | ((with_reducible first | refine ev_lss ?_ ?_ | refine ev_neq ?_ ?_) <;> intro h <;> try (exfalso; omega)) | ((with_reducible refine ev_add ?_ ?_); · omega) | refine ev_bd rfl ?_ | refine ev_bd0 rfl ?_) | ((with_reducible refine eL ?_); first | ((with_reducible refine ev_lenm ?_ ?_); · rfl) | refine ev_lenom rfl rfl ?_ | refine ev_lenfm rfl rfl ?_ | refine ev_lenoc rfl rfl rfl ?_ | refine ev_lenc rfl rfl ?_ | refine ev_leno rfl rfl ?_ | refine ev_slen rfl ?_ | refine ev_bd rfl ?_ | refine ev_bd0 rfl ?_) | ((with_reducible refine eI ?_); first | ((with_reducible refine ev_idxn ?_ ?_ ?_); (· rfl); · omega) | (refine ev_idxon rfl rfl ?_ ?_; (· first | omega | (simp only [List.length_cons, List.length_nil, List.length_map, List.length_append]; omega))) | (refine ev_idxfn rfl rfl ?_ ?_; (focus omega)) | ((with_reducible refine ev_idx ?_ ?_ ?_); (· rfl); · omega) | (refine ev_idxo rfl rfl ?_ ?_; (· first | omega | (simp only [List.length_cons, List.length_nil, List.length_map, List.length_append]; omega))) | (refine ev_idxf rfl rfl ?_ ?_; (focus omega)) | refine ev_bd rfl ?_ | refine ev_bd0 rfl ?_) | ((with_reducible refine eK ?_); first | (with_reducible first | refine ev_ct ?_ | refine ev_cf ?_) | ((with_reducible refine ev_cond ?_ ?_) <;> intro h)) | ((with_reducible refine eO ?_); first | refine ev_bd rfl ?_ | (refine ev_bdB rfl ?_ ?_ <;> intro h <;> try (exfalso; simp_all; done)) | refine ev_bd0 rfl ?_ | (refine ev_ldm rfl ?_ rfl ?_; (focus omega)) | (refine ev_ldmB rfl ?_ rfl ?_ ?_; (focus omega); (all_goals intro h))) | ((with_reducible refine eD ?_); first | refine ev_bd rfl ?_ | refine ev_bd0 rfl ?_) | ((with_reducible refine ih ?_ _ _ _ ?_ ?_) <;> (first | omega | assumption | (simp only [*, List.map_append, List.length_append, List.length_cons, List.length_nil, List.map_cons, List.map_nil]; done) | (simp_all; done) | (simp_all; omega))) | refine ev_ret rfl ?_)
  all_goals first
    | (exfalso; have := hn (by omega); omega)
    | exact ⟨congrArg iI (by omega), rfl⟩
    | trace_state
theorem s_heldIntS (k0 : Int) (hk0 : 0 ≤ k0 ∧ k0 ≤ 100000000) (m : Nat) (hm : m ≤ 2000000) : Ex (fun n => callF prg n 90 [.sl 1 ((markI k0 m).map iI), iI k0] []) (iI (k0 + m)) [] := by
  refine ev_is.1 ?_
  (refine U90 (nl := 0) rfl ?_; unfold B90)
  exact s_heldIntS_L k0 hk0 m hm _ rfl 0 (by omega) _ 0 0 rfl (by simp)

end Go.Proofs.Ytjfegdlgepbjoaa
