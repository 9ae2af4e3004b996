/- Keys among both; who has signed. -/
import Derived.Test.YtjfegdlgepbjoaaV4
namespace Go.Proofs.Ytjfegdlgepbjoaa
open Go
set_option linter.unusedVariables false
set_option linter.unusedSimpArgs false
set_option maxHeartbeats 4000000

/-! ### lists of keys -/
theorem keysOk_iff {l : List Int} : keysOk l = true ↔ ∀ i, i < l.length → keyAt l i := by simp [keysOk]
theorem keys_grow {l : List Int} (h : keysOk l = true) : ∀ j i, i < j → j < l.length → nth l i < nth l j := by
  intro j
  induction j with
  | zero => intro i hi; omega
  | succ j ih =>
    intro i hi hj
    have h1 := (keysOk_iff.1 h (j + 1) hj).2.2 (by omega)
    simp only [Nat.add_sub_cancel] at h1
    by_cases e : i = j
    · subst e; exact h1
    · have := ih i (by omega) (by omega); omega
theorem keys_low {l : List Int} (h : keysOk l = true) : ∀ i, i < l.length → (i : Int) + 1 ≤ nth l i := by
  intro i
  induction i with
  | zero => intro hi; have := (keysOk_iff.1 h 0 hi).1; omega
  | succ i ih =>
    intro hi
    have h1 := ih (by omega)
    have h2 := keys_grow h (i + 1) i (by omega) hi
    omega
theorem keysOk_len {l : List Int} (h : keysOk l = true) : l.length ≤ 6 := by
  by_cases e : l.length ≤ 6
  · exact e
  · have h1 := keys_low h 6 (by omega)
    have h2 := (keysOk_iff.1 h 6 (by omega)).2.1
    omega

/-- How often a number stands in a list. -/
def cnt (b : List Int) (v : Int) : Nat := (b.filter fun x => decide (v = x)).length
/-- How many of the one are in the other. -/
def both' (a b : List Int) : Nat := (a.filter fun x => decide (x ∈ b)).length
def pairs (a b : List Int) : Nat := (a.map (cnt b)).sum
theorem cnt_le (b : List Int) (v : Int) : cnt b v ≤ b.length := List.length_filter_le _ _
theorem both_le (a b : List Int) : both' a b ≤ a.length := List.length_filter_le _ _
theorem cnt_app (b c : List Int) (v : Int) : cnt (b ++ c) v = cnt b v + cnt c v := by simp [cnt]
theorem cnt_one (x v : Int) : cnt [x] v = if v = x then 1 else 0 := by
  unfold cnt; by_cases e : v = x <;> simp [e]
theorem keys_cnt {b : List Int} (h : keysOk b = true) (v : Int) : cnt b v = if v ∈ b then 1 else 0 := by
  have key : ∀ k, k ≤ b.length → cnt (b.take k) v = if v ∈ b.take k then 1 else 0 := by
    intro k
    induction k with
    | zero => intro _; simp [cnt]
    | succ k ih =>
      intro hk
      rw [take_nth (by omega), cnt_app, ih (by omega), cnt_one]
      by_cases e : v = nth b k
      · have : v ∉ b.take k := fun hm => by
          obtain ⟨j, hj, e'⟩ := mem_nth hm
          rw [List.length_take] at hj
          have h1 : nth (b.take k) j = nth b j := by
            unfold nth; simp only [List.getD_eq_getElem?_getD, List.getElem?_take]; rw [if_pos (by omega)]
          have := keys_grow h k j (by omega) (by omega)
          omega
        simp [e]; rw [← e]; simp [this]
      · simp [e]
  have := key b.length (Nat.le_refl _)
  rwa [List.take_length] at this
theorem pairs_both {a b : List Int} (h : keysOk b = true) : pairs a b = both' a b := by
  unfold pairs both'
  induction a with
  | nil => rfl
  | cons x xs ih =>
    rw [List.map_cons, List.sum_cons, ih, keys_cnt h]
    by_cases e : x ∈ b <;> simp [e] <;> omega

theorem s_IndexInt_L (l : List Int) (v : Int) (hl : l.length ≤ 140737488355328) : ∀ i, i ≤ l.length → v ∉ l.take i → ∀ (k : Int) (c : Nat), k = i →
    Ev (fun n => L112_2 (callF prg n) (n + 1) 0 (n + 1 - c) (.sl 1 (l.map iI)) (iI v) (iI l.length) (iI k) []) (fun x os => ∃ z : Int, x = iI z ∧ os = [] ∧ (0 ≤ z ↔ v ∈ l)) := by
  refine up_ind ?_
  intro i hi ih hp k c hk
  subst hk
  (refine UL112_2 ?_; unfold LB112_2)
  repeat' (first | ((with_reducible refine eB ?_); first | ((with_reducible first | refine ev_lss ?_ ?_ | refine ev_eql ?_ ?_) <;> intro h <;> try (exfalso; omega)) | ((with_reducible refine ev_add ?_ ?_); · omega) | refine ev_bd rfl ?_ | refine ev_bd0 rfl ?_) | ((with_reducible refine eI ?_); first | ((with_reducible refine ev_idx ?_ ?_ ?_); (· rfl); · omega) | (refine ev_idxo rfl rfl ?_ ?_; (· first | omega | (simp only [List.length_cons, List.length_nil, List.length_map, List.length_append]; omega))) | refine ev_bd rfl ?_ | refine ev_bd0 rfl ?_) | ((with_reducible refine eK ?_); first | (with_reducible first | refine ev_ct ?_ | refine ev_cf ?_) | ((with_reducible refine ev_cond ?_ ?_) <;> intro h)) | ((with_reducible refine eO ?_); first | refine ev_bd rfl ?_ | (refine ev_bdB rfl ?_ ?_ <;> intro h <;> try (exfalso; simp_all; done)) | refine ev_bd0 rfl ?_) | ((with_reducible refine eD ?_); first | refine ev_bd rfl ?_ | refine ev_bd0 rfl ?_) | ((with_reducible refine ih ?_ ?_ _ _ ?_) <;> (first | omega | assumption | ((rw [take_nth (by omega)]; simp_all)) | (simp only [*, List.map_append, List.length_append, List.length_cons, List.length_nil, List.map_cons, List.map_nil]; done) | (simp_all; done) | (simp_all; omega))) | refine ev_ret rfl ?_)
  · refine ⟨_, rfl, rfl, ?_⟩
    simp only [Int.toNat_natCast] at h
    have := nth_mem (l := l) (k := i) (by omega)
    rw [← h] at this
    simp [this]
  · refine ⟨_, rfl, rfl, ?_⟩
    rw [List.take_of_length_le (by omega)] at hp
    simp [hp]
theorem s_IndexInt (l : List Int) (v : Int) (hl : l.length ≤ 140737488355328) : ∃ z : Int, (0 ≤ z ↔ v ∈ l) ∧ Ex (fun m => callF prg m 112 [.sl 1 (l.map iI), iI v] []) (iI z) [] := by
  have key : Ev (fun m => callF prg m 112 [.sl 1 (l.map iI), iI v] []) (fun x os => ∃ z : Int, x = iI z ∧ os = [] ∧ (0 ≤ z ↔ v ∈ l)) := by
    (refine U112 (nl := 0) rfl ?_; unfold B112)
    repeat' (first | ((with_reducible refine eL ?_); first | ((with_reducible refine ev_lenm ?_ ?_); · rfl) | refine ev_lenom rfl rfl ?_ | refine ev_lenoc rfl rfl rfl ?_ | refine ev_lenc rfl rfl ?_ | refine ev_leno rfl rfl ?_ | refine ev_slen rfl ?_ | refine ev_bd rfl ?_ | refine ev_bd0 rfl ?_) | ((with_reducible refine eD ?_); first | refine ev_bd rfl ?_ | refine ev_bd0 rfl ?_) | ( exact s_IndexInt_L l v hl 0 (by omega) (by simp) 0 0 rfl) | refine ev_ret rfl ?_)
  obtain ⟨x, os, ⟨z, rfl, rfl, hz⟩, he⟩ := key
  exact ⟨z, hz, he⟩
theorem s_ContainsInt (l : List Int) (v : Int) (hl : l.length ≤ 140737488355328) : Ex (fun m => callF prg m 103 [.sl 1 (l.map iI), iI v] []) (bB (decide (v ∈ l))) [] := by
  refine ev_is.1 ?_
  (refine U103 (nl := 0) rfl ?_; unfold B103)
  repeat' (first | ((with_reducible refine eB ?_); first | ((with_reducible refine ev_geq ?_ ?_) <;> intro h <;> try (exfalso; omega)) | refine ev_bd rfl ?_ | refine ev_bd0 rfl ?_) | ((with_reducible refine eC ?_); first | ((refine ev_callN (s_IndexInt _ _ hl) rfl rfl ?_ (fun _ => rfl) ?_); (· first | exact .inl rfl | exact .inr (fun _ => rfl)); (first | (have q0 := z3; clear q0; intro z4 hz4) | (have q0 := z2; clear q0; intro z3 hz3) | (have q0 := z; clear q0; intro z2 hz2) | (intro z hz)))) | ((with_reducible refine eD ?_); first | refine ev_bd rfl ?_ | refine ev_bd0 rfl ?_) | refine ev_ret rfl ?_)
  all_goals (refine ⟨congrArg (fun b => SV.v (Value.bool b)) ?_, rfl⟩; first | (simp_all []; done) | (simp_all []; omega) | (simp [] at *; omega) | (simp []; omega) | grind [] | trace_state)
def keysBoth (a b : List Int) : Int := if keysOk a = true ∧ keysOk b = true then both' a b else -1
theorem both_step {a b : List Int} {i : Nat} (hi : i < a.length) : both' (a.take (i + 1)) b = both' (a.take i) b + if nth a i ∈ b then 1 else 0 := by
  rw [take_nth hi]
  unfold both'
  by_cases e : nth a i ∈ b <;> simp [e]
theorem s_KeysBoth_L (a b : List Int) (ha : keysOk a = true) (hb : keysOk b = true) : ∀ i, i ≤ a.length → ∀ (m k : Int) (c : Nat), m = both' (a.take i) b → k = i →
    Ev (fun n => L77_5 (callF prg n) (n + 1) 0 (n + 1 - c) (.sl 1 (b.map iI)) (iI m) (.sl 1 (a.map iI)) (iI a.length) (iI k) []) (Is (iI (keysBoth a b)) []) := by
  have la := keysOk_len ha
  have lb := keysOk_len hb
  refine up_ind ?_
  intro i hi ih m k c hm hk
  subst hk
  have hle := both_le (a.take i) b
  have hlt : (a.take i).length ≤ a.length := by simp; omega
  (refine UL77_5 ?_; unfold LB77_5)
  repeat' (first | ((with_reducible refine eB ?_); first | ((with_reducible refine ev_lss ?_ ?_) <;> intro h <;> try (exfalso; omega)) | ((with_reducible refine ev_add ?_ ?_); · omega) | refine ev_bd rfl ?_ | refine ev_bd0 rfl ?_) | ((with_reducible refine eI ?_); first | ((with_reducible refine ev_idx ?_ ?_ ?_); (· rfl); · omega) | (refine ev_idxo rfl rfl ?_ ?_; (· first | omega | (simp only [List.length_cons, List.length_nil, List.length_map, List.length_append]; omega))) | refine ev_bd rfl ?_ | refine ev_bd0 rfl ?_) | ((with_reducible refine eC ?_); first | ((refine ev_callD (s_ContainsInt _ _ (by omega)) rfl rfl ?_ rfl rfl ?_ ?_); (focus first | exact .inl rfl | exact .inr rfl | (refine .inr ?_; simp [flagC, ownF, hasSl3, hasSl1, SO.hasSl, List.all_map, flatSV, SV.cells, Function.comp_def]; done)); (all_goals (intro h)); (all_goals (try (exfalso; first | omega | exact h rfl | exact h ⟨rfl, rfl, rfl⟩))))) | ((with_reducible refine eK ?_); first | (with_reducible first | refine ev_ct ?_ | refine ev_cf ?_) | ((with_reducible refine ev_cond ?_ ?_) <;> intro h)) | ((with_reducible refine eO ?_); first | refine ev_bd rfl ?_ | (refine ev_bdB rfl ?_ ?_ <;> intro h <;> try (exfalso; simp_all; done)) | refine ev_bd0 rfl ?_) | ((with_reducible refine eD ?_); first | refine ev_bd rfl ?_ | refine ev_bd0 rfl ?_) | ((with_reducible refine UJ77_9 ?_); (unfold JB77_9)) | ((with_reducible refine ih ?_ _ _ _ ?_ ?_) <;> (first | omega | assumption | ((rw [both_step (by omega)]; simp_all)) | (simp only [*, List.map_append, List.length_append, List.length_cons, List.length_nil, List.map_cons, List.map_nil]; done) | (simp_all; done) | (simp_all; omega))) | refine ev_ret rfl ?_)
  refine ⟨congrArg iI ?_, rfl⟩
  rw [hm, List.take_of_length_le (by omega)]
  simp [keysBoth, ha, hb]
theorem s_KeysBoth (a b : List Int) (ha : a.length ≤ 140737488355328) (hb : b.length ≤ 140737488355328) : Ex (fun m => callF prg m 77 [.sl 1 (a.map iI), .sl 1 (b.map iI)] []) (iI (keysBoth a b)) [] := by
  refine ev_is.1 ?_
  (refine U77 (nl := 0) rfl ?_; unfold B77)
  repeat' (first | ((with_reducible refine eG ?_); first | (with_reducible first | refine ev_gtt ?_ | refine ev_gff ?_ | refine ev_gtf ?_ | refine ev_gft ?_ | refine ev_gu ?_) | refine ev_bd rfl ?_ | refine ev_bd0 rfl ?_ | ((with_reducible refine ev_gB ?_ ?_) <;> intro h)) | ((with_reducible refine eL ?_); first | ((with_reducible refine ev_lenm ?_ ?_); · rfl) | refine ev_lenom rfl rfl ?_ | refine ev_lenoc rfl rfl rfl ?_ | refine ev_lenc rfl rfl ?_ | refine ev_leno rfl rfl ?_ | refine ev_slen rfl ?_ | refine ev_bd rfl ?_ | refine ev_bd0 rfl ?_) | ((with_reducible refine eC ?_); first | ((refine ev_callB (s_KeysOkI _ (by omega)) rfl rfl ?_ rfl rfl ?_ ?_); (focus first | exact .inl rfl | exact .inr rfl | (refine .inr ?_; simp [flagC, ownF, hasSl3, hasSl1, SO.hasSl, List.all_map, flatSV, SV.cells, Function.comp_def]; done)); (all_goals (intro h)); (all_goals (try (exfalso; simp_all; done))))) | ((with_reducible refine eK ?_); first | (with_reducible first | refine ev_ct ?_ | refine ev_cf ?_) | ((with_reducible refine ev_cond ?_ ?_) <;> intro h)) | ((with_reducible refine eD ?_); first | refine ev_bd rfl ?_ | refine ev_bd0 rfl ?_ | ((with_reducible refine ev_pickB ?_ ?_) <;> intro h)) | ( exact s_KeysBoth_L a b (by assumption) (by assumption) 0 (by omega) 0 0 0 (by simp [both']) rfl) | refine ev_ret rfl ?_)
  all_goals exact ⟨congrArg iI (by simp [keysBoth, *]), rfl⟩

/-! ### signed -/
def rootSigned (r : TRoot) (by_ : List Int) : Bool := rootOk r.num r.keys r.need && keysOk by_ && decide (r.need ≤ both' r.keys by_)
theorem rootSigned_iff {r : TRoot} {b : List Int} : rootSigned r b = true ↔ rootOk r.num r.keys r.need = true ∧ keysOk b = true ∧ r.need ≤ both' r.keys b := by
  simp [rootSigned, and_assoc]
theorem rootSigned_num {num : Int} {keys : List Int} {need : Int} {b : List Int} (h : rootSigned ⟨num, keys, need⟩ b = true) : 1 ≤ num ∧ num ≤ 9 := (rootOk_iff.1 (rootSigned_iff.1 h).1).1
def rootNext (r s : TRoot) (by_ : List Int) : Bool := rootSigned r by_ && rootSigned s by_ && decide (s.num = r.num + 1)

theorem s_RootSignedI (num : Int) (keys : List Int) (need : Int) (b : List Int) (h1 : keys.length ≤ 140737488355328) (h2 : b.length ≤ 140737488355328) :
    Ex (fun m => callF prg m 31 [.ag [iI num, .sl 1 (keys.map iI), iI need], .sl 1 (b.map iI)] []) (bB (rootSigned ⟨num, keys, need⟩ b)) [] := by
  refine ev_is.1 ?_
  (refine U31 (nl := 0) rfl ?_; unfold B31)
  repeat' (first | ((with_reducible refine eG ?_); first | (with_reducible first | refine ev_gtt ?_ | refine ev_gff ?_ | refine ev_gtf ?_ | refine ev_gft ?_ | refine ev_gu ?_) | refine ev_bd rfl ?_ | refine ev_bd0 rfl ?_ | ((with_reducible refine ev_gB ?_ ?_) <;> intro h)) | ((with_reducible refine eB ?_); first | ((with_reducible refine ev_geq ?_ ?_) <;> intro h <;> try (exfalso; omega)) | refine ev_bd rfl ?_ | refine ev_bd0 rfl ?_) | ((with_reducible refine eC ?_); first | ((refine ev_callB (s_RootOkI _ _ _ h1) rfl rfl ?_ rfl rfl ?_ ?_); (focus first | exact .inl rfl | exact .inr rfl | (refine .inr ?_; simp [flagC, ownF, hasSl3, hasSl1, SO.hasSl, List.all_map, flatSV, SV.cells, Function.comp_def]; done)); (all_goals (intro h)); (all_goals (try (exfalso; simp_all; done)))) | ((refine ev_callB (s_KeysOkI _ h2) rfl rfl ?_ rfl rfl ?_ ?_); (focus first | exact .inl rfl | exact .inr rfl | (refine .inr ?_; simp [flagC, ownF, hasSl3, hasSl1, SO.hasSl, List.all_map, flatSV, SV.cells, Function.comp_def]; done)); (all_goals (intro h)); (all_goals (try (exfalso; simp_all; done)))) | ((refine ev_call (s_KeysBoth _ _ h1 h2) rfl rfl ?_ rfl ?_); (focus first | exact .inl rfl | exact .inr rfl | (refine .inr ?_; simp [flagC, ownF, hasSl3, hasSl1, SO.hasSl, List.all_map, flatSV, SV.cells, Function.comp_def]; done)))) | ((with_reducible refine eO ?_); first | refine ev_bd rfl ?_ | (refine ev_bdB rfl ?_ ?_ <;> intro h <;> try (exfalso; simp_all; done)) | refine ev_bd0 rfl ?_) | ((with_reducible refine eD ?_); first | refine ev_bd rfl ?_ | refine ev_bd0 rfl ?_ | ((with_reducible refine ev_pickB ?_ ?_) <;> intro h)) | ((with_reducible refine ev_dchk ?_ ?_); · intro _; rfl) | refine ev_ret rfl ?_)
  all_goals first
    | (have hk := (rootOk_iff.1 (by assumption)).2.1
       exact ⟨congrArg bB (by simp_all [rootSigned, keysBoth]), rfl⟩)
    | exact ⟨congrArg bB (by simp_all [rootSigned]), rfl⟩
    | trace_state
theorem s_l2Both_L6 (a b : List Int) (ha : a.length ≤ 1000) (hb : b.length ≤ 1000) (i : Nat) (hi : i < a.length) (base : Nat) (hbase : base ≤ 1000000) (m3 : Nat → Nat) {Q : SV → List SO → Prop}
    (hout : Ev (fun n => L104_3 (callF prg n) (n + 1) 0 (m3 n) (.sl 1 (a.map iI)) (.sl 1 (b.map iI)) (iI ((base + cnt b (nth a i) : Nat) : Int)) (iI ((i : Int) + 1)) []) Q) :
    ∀ k, k ≤ b.length → ∀ (m j : Int) (c : Nat), m = ((base + cnt (b.take k) (nth a i) : Nat) : Int) → j = k →
    Ev (fun n => L104_6 (callF prg n) (n + 1) 0 (m3 n) (n + 1 - c) (.sl 1 (a.map iI)) (.sl 1 (b.map iI)) (iI m) (iI (i : Int)) (iI j) []) Q := by
  refine up_ind ?_
  intro k hk ih m j c hm hj
  subst hj
  have hc := cnt_le (b.take k) (nth a i)
  have hl : (b.take k).length ≤ b.length := by simp; omega
  (refine UL104_6 ?_; unfold LB104_6)
  repeat' (first | ((with_reducible refine eB ?_); first | ((with_reducible first | refine ev_lss ?_ ?_ | refine ev_eql ?_ ?_) <;> intro h <;> try (exfalso; omega)) | ((with_reducible refine ev_add ?_ ?_); · omega) | refine ev_bd rfl ?_ | refine ev_bd0 rfl ?_) | ((with_reducible refine eL ?_); first | ((with_reducible refine ev_lenm ?_ ?_); · rfl) | refine ev_lenom rfl rfl ?_ | refine ev_lenoc rfl rfl rfl ?_ | refine ev_lenc rfl rfl ?_ | refine ev_leno rfl rfl ?_ | refine ev_slen rfl ?_ | refine ev_bd rfl ?_ | refine ev_bd0 rfl ?_) | ((with_reducible refine eI ?_); first | ((with_reducible refine ev_idx ?_ ?_ ?_); (· rfl); · omega) | (refine ev_idxo rfl rfl ?_ ?_; (· first | omega | (simp only [List.length_cons, List.length_nil, List.length_map, List.length_append]; omega))) | refine ev_bd rfl ?_ | refine ev_bd0 rfl ?_) | ((with_reducible refine eK ?_); first | (with_reducible first | refine ev_ct ?_ | refine ev_cf ?_) | ((with_reducible refine ev_cond ?_ ?_) <;> intro h)) | ((with_reducible refine eO ?_); first | refine ev_bd rfl ?_ | (refine ev_bdB rfl ?_ ?_ <;> intro h <;> try (exfalso; simp_all; done)) | refine ev_bd0 rfl ?_) | ((with_reducible refine eD ?_); first | refine ev_bd rfl ?_ | refine ev_bd0 rfl ?_) | ((with_reducible refine UJ104_7 ?_); (unfold JB104_7)) | ((with_reducible refine ih ?_ _ _ _ ?_ ?_) <;> (first | omega | assumption | ((rw [take_nth (by omega), cnt_app, cnt_one]; simp_all)) | (simp only [*, List.map_append, List.length_append, List.length_cons, List.length_nil, List.map_cons, List.map_nil]; done) | (simp_all; done) | (simp_all; omega))) | ( (rw [List.take_of_length_le (by omega)] at hm; rw [hm]; exact hout)) | refine ev_ret rfl ?_)
  all_goals first | omega | trace_state
theorem s_l2Both_L (a b : List Int) (ha : a.length ≤ 1000) (hb : b.length ≤ 1000) : ∀ i, i ≤ a.length → ∀ (m k : Int) (c : Nat), m = (pairs (a.take i) b : Int) → k = i →
    Ev (fun n => L104_3 (callF prg n) (n + 1) 0 (n + 1 - c) (.sl 1 (a.map iI)) (.sl 1 (b.map iI)) (iI m) (iI k) []) (Is (iI (pairs a b)) []) := by
  have hs : ∀ i, i < a.length → pairs (a.take (i + 1)) b = pairs (a.take i) b + cnt b (nth a i) := by
    intro i hi
    rw [take_nth hi]
    unfold pairs
    simp only [List.map_append, List.sum_append, List.map_cons, List.map_nil, List.sum_cons, List.sum_nil, Nat.add_zero]
  have hp : ∀ i, i ≤ a.length → pairs (a.take i) b ≤ i * 1000 := by
    intro i
    induction i with
    | zero => intro _; simp [pairs]
    | succ i ih =>
      intro hi
      have := ih (by omega)
      have h2 := cnt_le b (nth a i)
      rw [hs i (by omega)]
      omega
  refine up_ind ?_
  intro i hi ih m k c hm hk
  subst hk
  have h3 := hp i hi
  (refine UL104_3 ?_; unfold LB104_3)
  repeat' (first | ((with_reducible refine eB ?_); first | ((with_reducible refine ev_lss ?_ ?_) <;> intro h <;> try (exfalso; omega)) | refine ev_bd rfl ?_ | refine ev_bd0 rfl ?_) | ((with_reducible refine eL ?_); first | ((with_reducible refine ev_lenm ?_ ?_); · rfl) | refine ev_lenom rfl rfl ?_ | refine ev_lenoc rfl rfl rfl ?_ | refine ev_lenc rfl rfl ?_ | refine ev_leno rfl rfl ?_ | refine ev_slen rfl ?_ | refine ev_bd rfl ?_ | refine ev_bd0 rfl ?_) | ((with_reducible refine eK ?_); first | (with_reducible first | refine ev_ct ?_ | refine ev_cf ?_) | ((with_reducible refine ev_cond ?_ ?_) <;> intro h)) | ((with_reducible refine eD ?_); first | refine ev_bd rfl ?_ | refine ev_bd0 rfl ?_) | ((with_reducible refine ih ?_ _ _ _ ?_ ?_) <;> (first | omega | assumption | ((rw [hs i (by omega)])) | (simp only [*, List.map_append, List.length_append, List.length_cons, List.length_nil, List.map_cons, List.map_nil]; done) | (simp_all; done) | (simp_all; omega))) | ( (refine s_l2Both_L6 a b ha hb i (by omega) (pairs (a.take i) b) (by omega) (fun n => n + 1 - (c + 1)) ?_ 0 (by omega) _ _ 0 (by simp [cnt, hm]) rfl)) | refine ev_ret rfl ?_)
  exact ⟨congrArg iI (by rw [hm, List.take_of_length_le (by omega)]), rfl⟩
theorem s_l2Both (a b : List Int) (ha : a.length ≤ 1000) (hb : b.length ≤ 1000) : Ex (fun m => callF prg m 104 [.sl 1 (a.map iI), .sl 1 (b.map iI)] []) (iI (pairs a b)) [] := by
  refine ev_is.1 ?_
  (refine U104 (nl := 0) rfl ?_; unfold B104)
  exact s_l2Both_L a b ha hb 0 (by omega) 0 0 0 (by simp [pairs]) rfl
theorem s_RootSignedS (num : Int) (keys : List Int) (need : Int) (b : List Int) (h1 : keys.length ≤ 140737488355328) (h2 : b.length ≤ 140737488355328) :
    Ex (fun m => callF prg m 99 [.ag [iI num, .sl 1 (keys.map iI), iI need], .sl 1 (b.map iI)] []) (bB (rootSigned ⟨num, keys, need⟩ b)) [] := by
  refine ev_is.1 ?_
  (refine U99 (nl := 0) rfl ?_; unfold B99)
  repeat' (first | ((with_reducible refine eG ?_); first | (with_reducible first | refine ev_gtt ?_ | refine ev_gff ?_ | refine ev_gtf ?_ | refine ev_gft ?_ | refine ev_gu ?_) | refine ev_bd rfl ?_ | refine ev_bd0 rfl ?_ | ((with_reducible refine ev_gB ?_ ?_) <;> intro h)) | ((with_reducible refine eB ?_); first | ((with_reducible refine ev_geq ?_ ?_) <;> intro h <;> try (exfalso; omega)) | refine ev_bd rfl ?_ | refine ev_bd0 rfl ?_) | ((with_reducible refine eC ?_); first | ((refine ev_callB (s_RootOkS _ _ _ h1) rfl rfl ?_ rfl rfl ?_ ?_); (focus first | exact .inl rfl | exact .inr rfl | (refine .inr ?_; simp [flagC, ownF, hasSl3, hasSl1, SO.hasSl, List.all_map, flatSV, SV.cells, Function.comp_def]; done)); (all_goals (intro h)); (all_goals (try (exfalso; simp_all; done)))) | ((refine ev_callB (s_KeysOkS _ h2) rfl rfl ?_ rfl rfl ?_ ?_); (focus first | exact .inl rfl | exact .inr rfl | (refine .inr ?_; simp [flagC, ownF, hasSl3, hasSl1, SO.hasSl, List.all_map, flatSV, SV.cells, Function.comp_def]; done)); (all_goals (intro h)); (all_goals (try (exfalso; simp_all; done)))) | ((refine ev_call (s_l2Both _ _ (by (have := keysOk_len (rootOk_iff.1 (by assumption)).2.1); omega) (by (have := keysOk_len (l := b) (by assumption)); omega)) rfl rfl ?_ rfl ?_); (focus first | exact .inl rfl | exact .inr rfl | (refine .inr ?_; simp [flagC, ownF, hasSl3, hasSl1, SO.hasSl, List.all_map, flatSV, SV.cells, Function.comp_def]; done)))) | ((with_reducible refine eO ?_); first | refine ev_bd rfl ?_ | (refine ev_bdB rfl ?_ ?_ <;> intro h <;> try (exfalso; simp_all; done)) | refine ev_bd0 rfl ?_) | ((with_reducible refine eD ?_); first | refine ev_bd rfl ?_ | refine ev_bd0 rfl ?_ | ((with_reducible refine ev_pickB ?_ ?_) <;> intro h)) | ((with_reducible refine ev_dchk ?_ ?_); · intro _; rfl) | refine ev_ret rfl ?_)
  all_goals first
    | (have hk := pairs_both (a := keys) (b := b) (by assumption)
       exact ⟨congrArg bB (by simp_all [rootSigned]), rfl⟩)
    | exact ⟨congrArg bB (by simp_all [rootSigned]), rfl⟩
    | trace_state
theorem s_RootNextI (num : Int) (keys : List Int) (need : Int) (num' : Int) (keys' : List Int) (need' : Int) (b : List Int) (h1 : keys.length ≤ 140737488355328) (h1' : keys'.length ≤ 140737488355328) (h2 : b.length ≤ 140737488355328) :
    Ex (fun m => callF prg m 36 [.ag [iI num, .sl 1 (keys.map iI), iI need], .ag [iI num', .sl 1 (keys'.map iI), iI need', .sl 1 (b.map iI)]] []) (bB (rootNext ⟨num, keys, need⟩ ⟨num', keys', need'⟩ b)) [] := by
  refine ev_is.1 ?_
  (refine U36 (nl := 0) rfl ?_; unfold B36)
  repeat' (first | ((with_reducible refine eG ?_); first | (with_reducible first | refine ev_gtt ?_ | refine ev_gff ?_ | refine ev_gtf ?_ | refine ev_gft ?_ | refine ev_gu ?_) | refine ev_bd rfl ?_ | refine ev_bd0 rfl ?_ | ((with_reducible refine ev_gB ?_ ?_) <;> intro h)) | ((with_reducible refine eB ?_); first | ((with_reducible refine ev_eql ?_ ?_) <;> intro h <;> try (exfalso; omega)) | ((with_reducible refine ev_add ?_ ?_); · omega) | ( ((with_reducible refine ev_add ?_ ?_); (· have := rootSigned_num (by assumption : rootSigned ⟨num, keys, need⟩ b = true); omega))) | refine ev_bd rfl ?_ | refine ev_bd0 rfl ?_) | ((with_reducible refine eC ?_); first | ((refine ev_callB (s_RootSignedI _ _ _ _ h1 h2) rfl rfl ?_ rfl rfl ?_ ?_); (focus first | exact .inl rfl | exact .inr rfl | (refine .inr ?_; simp [flagC, ownF, hasSl3, hasSl1, SO.hasSl, List.all_map, flatSV, SV.cells, Function.comp_def]; done)); (all_goals (intro h)); (all_goals (try (exfalso; simp_all; done)))) | ((refine ev_callB (s_RootSignedI _ _ _ _ h1' h2) rfl rfl ?_ rfl rfl ?_ ?_); (focus first | exact .inl rfl | exact .inr rfl | (refine .inr ?_; simp [flagC, ownF, hasSl3, hasSl1, SO.hasSl, List.all_map, flatSV, SV.cells, Function.comp_def]; done)); (all_goals (intro h)); (all_goals (try (exfalso; simp_all; done))))) | ((with_reducible refine eO ?_); first | refine ev_bd rfl ?_ | (refine ev_bdB rfl ?_ ?_ <;> intro h <;> try (exfalso; simp_all; done)) | refine ev_bd0 rfl ?_) | ((with_reducible refine eD ?_); first | refine ev_bd rfl ?_ | refine ev_bd0 rfl ?_ | ((with_reducible refine ev_pickB ?_ ?_) <;> intro h)) | refine ev_ret rfl ?_)
  all_goals (refine ⟨congrArg (fun b => SV.v (Value.bool b)) ?_, rfl⟩; first | (simp_all [rootNext]; done) | (simp_all [rootNext]; omega) | (simp [rootNext] at *; omega) | (simp [rootNext]; omega) | grind [rootNext] | trace_state)
theorem s_RootNextS (num : Int) (keys : List Int) (need : Int) (num' : Int) (keys' : List Int) (need' : Int) (b : List Int) (h1 : keys.length ≤ 140737488355328) (h1' : keys'.length ≤ 140737488355328) (h2 : b.length ≤ 140737488355328) :
    Ex (fun m => callF prg m 105 [.ag [iI num, .sl 1 (keys.map iI), iI need], .ag [iI num', .sl 1 (keys'.map iI), iI need', .sl 1 (b.map iI)]] []) (bB (rootNext ⟨num, keys, need⟩ ⟨num', keys', need'⟩ b)) [] := by
  refine ev_is.1 ?_
  (refine U105 (nl := 0) rfl ?_; unfold B105)
  repeat' (first | ((with_reducible refine eG ?_); first | (with_reducible first | refine ev_gtt ?_ | refine ev_gff ?_ | refine ev_gtf ?_ | refine ev_gft ?_ | refine ev_gu ?_) | refine ev_bd rfl ?_ | refine ev_bd0 rfl ?_ | ((with_reducible refine ev_gB ?_ ?_) <;> intro h)) | ((with_reducible refine eB ?_); first | ((with_reducible refine ev_eql ?_ ?_) <;> intro h <;> try (exfalso; omega)) | ((with_reducible refine ev_add ?_ ?_); · omega) | ( ((with_reducible refine ev_add ?_ ?_); (· have := rootSigned_num (by assumption : rootSigned ⟨num, keys, need⟩ b = true); omega))) | refine ev_bd rfl ?_ | refine ev_bd0 rfl ?_) | ((with_reducible refine eC ?_); first | ((refine ev_callB (s_RootSignedS _ _ _ _ h1 h2) rfl rfl ?_ rfl rfl ?_ ?_); (focus first | exact .inl rfl | exact .inr rfl | (refine .inr ?_; simp [flagC, ownF, hasSl3, hasSl1, SO.hasSl, List.all_map, flatSV, SV.cells, Function.comp_def]; done)); (all_goals (intro h)); (all_goals (try (exfalso; simp_all; done)))) | ((refine ev_callB (s_RootSignedS _ _ _ _ h1' h2) rfl rfl ?_ rfl rfl ?_ ?_); (focus first | exact .inl rfl | exact .inr rfl | (refine .inr ?_; simp [flagC, ownF, hasSl3, hasSl1, SO.hasSl, List.all_map, flatSV, SV.cells, Function.comp_def]; done)); (all_goals (intro h)); (all_goals (try (exfalso; simp_all; done))))) | ((with_reducible refine eO ?_); first | refine ev_bd rfl ?_ | (refine ev_bdB rfl ?_ ?_ <;> intro h <;> try (exfalso; simp_all; done)) | refine ev_bd0 rfl ?_) | ((with_reducible refine eD ?_); first | refine ev_bd rfl ?_ | refine ev_bd0 rfl ?_ | ((with_reducible refine ev_pickB ?_ ?_) <;> intro h)) | refine ev_ret rfl ?_)
  all_goals (refine ⟨congrArg (fun b => SV.v (Value.bool b)) ?_, rfl⟩; first | (simp_all [rootNext]; done) | (simp_all [rootNext]; omega) | (simp [rootNext] at *; omega) | (simp [rootNext]; omega) | grind [rootNext] | trace_state)

/-! ### trust takes a root, an index -/
def trustRoot (t : TTrust) (s : TRoot) (b : List Int) : TTrust × Bool :=
  if trustOk t = true then (if rootNext t.root s b = true then (⟨s, t.has, t.index⟩, true) else (t, false)) else (zTrust, false)
def trustIndex (t : TTrust) (x : TIndex) (b : List Int) (now : Int) : TTrust × Bool :=
  if trustOk t = true ∧ 0 ≤ now ∧ now ≤ 60 then
    (if indexOk x.num x.til x.metas = true ∧ rootSigned t.root b = true ∧ ¬ x.til < now ∧ ¬ (t.has = true ∧ x.num ≤ t.index.num) then (⟨t.root, true, x⟩, true) else (t, false))
  else (zTrust, false)

/-- Trust as a result, its slices its own or handed on. -/
def TP (t : TTrust) (k m : SV) (os : List SO) : Prop :=
  (k = .osl 0 ∧ m = .osl 1 ∧ os = oTrust t) ∨ (k = .sl 1 (t.root.keys.map iI) ∧ m = .sl 3 (t.index.metas.map eMeta) ∧ os = []) ∨
  (k = .osl 0 ∧ m = .sl 3 (t.index.metas.map eMeta) ∧ os = [.arr false 1 (t.root.keys.map iI)]) ∨ (k = .sl 1 (t.root.keys.map iI) ∧ m = .osl 0 ∧ os = [.arr false 3 (t.index.metas.map eMeta)])
abbrev mTrust (t : TTrust) (k m : SV) : SV := .ag [iI t.root.num, k, iI t.root.need, bB t.has, iI t.index.num, iI t.index.til, m]
def QTrustM (p : TTrust × Bool) : SV → List SO → Prop := fun x os => ∃ t ok k m, p = (t, ok) ∧ x = .tup [mTrust t k m, bB ok] ∧ TP t k m os

theorem s_TrustRootI (t : TTrust) (hT : TLen t) (num : Int) (keys : List Int) (need : Int) (b : List Int) (h1 : keys.length ≤ 2000000) (h2 : b.length ≤ 2000000) :
    Ev (fun m => callF prg m 33 [aTrust t, .ag [iI num, .sl 1 (keys.map iI), iI need, .sl 1 (b.map iI)]] []) (QTrust (trustRoot t ⟨num, keys, need⟩ b)) := by
  have hk := hT.k
  have hm := hT.m
  (refine U33 (nl := 0) rfl ?_; unfold B33)
  repeat' (first | ((with_reducible refine eC ?_); first | ((refine ev_callB (s_TrustOkI t hT) rfl rfl ?_ rfl rfl ?_ ?_); (focus first | exact .inl rfl | exact .inr rfl | (refine .inr ?_; simp [flagC, ownF, hasSl3, hasSl1, SO.hasSl, List.all_map, flatSV, SV.cells, Function.comp_def]; done)); (all_goals (intro h)); (all_goals (try (exfalso; simp_all; done)))) | ((refine ev_call (s_copiedTrust t hT) rfl rfl ?_ rfl ?_); (focus first | exact .inl rfl | exact .inr rfl | (refine .inr ?_; simp [flagC, ownF, hasSl3, hasSl1, SO.hasSl, List.all_map, flatSV, SV.cells, Function.comp_def]; done))) | ((refine ev_callB (s_RootNextI _ _ _ _ _ _ _ (by omega) (by omega) (by omega)) rfl rfl ?_ rfl rfl ?_ ?_); (focus first | exact .inl rfl | exact .inr rfl | (refine .inr ?_; simp [flagC, ownF, hasSl3, hasSl1, SO.hasSl, List.all_map, flatSV, SV.cells, Function.comp_def]; done)); (all_goals (intro h)); (all_goals (try (exfalso; simp_all; done)))) | ((refine ev_call (s_copiedRoot _ _ _ (by omega)) rfl rfl ?_ rfl ?_); (focus first | exact .inl rfl | exact .inr rfl | (refine .inr ?_; simp [flagC, ownF, hasSl3, hasSl1, SO.hasSl, List.all_map, flatSV, SV.cells, Function.comp_def]; done)))) | ((with_reducible refine eK ?_); first | (with_reducible first | refine ev_ct ?_ | refine ev_cf ?_) | ((with_reducible refine ev_cond ?_ ?_) <;> intro h)) | ((with_reducible refine eO ?_); first | refine ev_bd rfl ?_ | (refine ev_bdB rfl ?_ ?_ <;> intro h <;> try (exfalso; simp_all; done)) | refine ev_bd0 rfl ?_) | ((with_reducible refine eD ?_); first | refine ev_bd rfl ?_ | refine ev_bd0 rfl ?_) | refine ev_ret rfl ?_)
  · exact ⟨⟨⟨num, keys, need⟩, t.has, t.index⟩, true, by simp_all [trustRoot], rfl, rfl⟩
  · exact ⟨t, false, by simp_all [trustRoot], rfl, rfl⟩
  · exact ⟨zTrust, false, by simp_all [trustRoot], rfl, rfl⟩
theorem s_l11Root (t : TTrust) (hT : TLen t) (num : Int) (keys : List Int) (need : Int) (b : List Int) (h1 : keys.length ≤ 2000000) (h2 : b.length ≤ 2000000) :
    Ev (fun m => callF prg m 80 [aTrust t, .ag [iI num, .sl 1 (keys.map iI), iI need, .sl 1 (b.map iI)]] []) (QTrustM (if rootNext t.root ⟨num, keys, need⟩ b = true then (⟨⟨num, keys, need⟩, t.has, t.index⟩, true) else (t, false))) := by
  have hk := hT.k
  have hm := hT.m
  (refine U80 (nl := 0) rfl ?_; unfold B80)
  repeat' (first | ((with_reducible refine eC ?_); first | ((refine ev_callB (s_RootNextS _ _ _ _ _ _ _ (by omega) (by omega) (by omega)) rfl rfl ?_ rfl rfl ?_ ?_); (focus first | exact .inl rfl | exact .inr rfl | (refine .inr ?_; simp [flagC, ownF, hasSl3, hasSl1, SO.hasSl, List.all_map, flatSV, SV.cells, Function.comp_def]; done)); (all_goals (intro h)); (all_goals (try (exfalso; simp_all; done)))) | ((refine ev_call (s_l11RootCopy _ _ _ (by omega)) rfl rfl ?_ rfl ?_); (focus first | exact .inl rfl | exact .inr rfl | (refine .inr ?_; simp [flagC, ownF, hasSl3, hasSl1, SO.hasSl, List.all_map, flatSV, SV.cells, Function.comp_def]; done)))) | ((with_reducible refine eK ?_); first | (with_reducible first | refine ev_ct ?_ | refine ev_cf ?_) | ((with_reducible refine ev_cond ?_ ?_) <;> intro h)) | ((with_reducible refine eO ?_); first | refine ev_bd rfl ?_ | (refine ev_bdB rfl ?_ ?_ <;> intro h <;> try (exfalso; simp_all; done)) | refine ev_bd0 rfl ?_) | ((with_reducible refine eD ?_); first | refine ev_bd rfl ?_ | refine ev_bd0 rfl ?_) | refine ev_ret rfl ?_)
  · exact ⟨⟨⟨num, keys, need⟩, t.has, t.index⟩, true, _, _, by simp_all, rfl, .inr (.inr (.inl ⟨rfl, rfl, rfl⟩))⟩
  · exact ⟨t, false, _, _, by simp_all, rfl, .inr (.inl ⟨rfl, rfl, rfl⟩)⟩
theorem s_TrustRootS (t : TTrust) (hT : TLen t) (num : Int) (keys : List Int) (need : Int) (b : List Int) (h1 : keys.length ≤ 2000000) (h2 : b.length ≤ 2000000) :
    Ev (fun m => callF prg m 35 [aTrust t, .ag [iI num, .sl 1 (keys.map iI), iI need, .sl 1 (b.map iI)]] []) (QTrustM (trustRoot t ⟨num, keys, need⟩ b)) := by
  have hk := hT.k
  have hm := hT.m
  (refine U35 (nl := 0) rfl ?_; unfold B35)
  repeat' (first | ((with_reducible refine eC ?_); first | ((refine ev_callB (s_TrustOkS t hT) rfl rfl ?_ rfl rfl ?_ ?_); (focus first | exact .inl rfl | exact .inr rfl | (refine .inr ?_; simp [flagC, ownF, hasSl3, hasSl1, SO.hasSl, List.all_map, flatSV, SV.cells, Function.comp_def]; done)); (all_goals (intro h)); (all_goals (try (exfalso; simp_all; done)))) | ((refine ev_call (s_l11Copy t hT) rfl rfl ?_ rfl ?_); (focus first | exact .inl rfl | exact .inr rfl | (refine .inr ?_; simp [flagC, ownF, hasSl3, hasSl1, SO.hasSl, List.all_map, flatSV, SV.cells, Function.comp_def]; done))) | ((refine ev_callE (s_l11Root t hT num keys need b h1 h2) rfl rfl ?_); ((rintro _ _ ⟨t', ok, _, _, he, rfl, ⟨rfl, rfl, rfl⟩ | ⟨rfl, rfl, rfl⟩ | ⟨rfl, rfl, rfl⟩ | ⟨rfl, rfl, rfl⟩⟩) <;> (first | (refine ev_post ?_ rfl ?_; (focus first | exact .inl rfl | exact .inr rfl | (refine .inr ?_; simp [flagC, ownF, hasSl3, hasSl1, SO.hasSl, List.all_map, flatSV, SV.cells, Function.comp_def]; done))) | (refine ev_postF ?_ rfl ?_; (focus first | rfl | (simp [flagC, ownF, hasSl3, hasSl1, SO.hasSl, List.all_map, flatSV, SV.cells, Function.comp_def]; done))))))) | ((with_reducible refine eK ?_); first | (with_reducible first | refine ev_ct ?_ | refine ev_cf ?_) | ((with_reducible refine ev_cond ?_ ?_) <;> intro h)) | ((with_reducible refine eO ?_); first | refine ev_bd rfl ?_ | (refine ev_bdB rfl ?_ ?_ <;> intro h <;> try (exfalso; simp_all; done)) | refine ev_bd0 rfl ?_) | ((with_reducible refine eD ?_); first | refine ev_bd rfl ?_ | refine ev_bd0 rfl ?_) | ((with_reducible refine ev_dchk ?_ ?_); · intro _; rfl) | refine ev_ret rfl ?_)
  · exact ⟨t', ok, _, _, by simp_all [trustRoot], rfl, .inl ⟨rfl, rfl, rfl⟩⟩
  · exact ⟨t', ok, _, _, by simp_all [trustRoot], rfl, .inr (.inl ⟨rfl, rfl, rfl⟩)⟩
  · exact ⟨t', ok, _, _, by simp_all [trustRoot], rfl, .inr (.inr (.inl ⟨rfl, rfl, rfl⟩))⟩
  · exact ⟨t', ok, _, _, by simp_all [trustRoot], rfl, .inr (.inr (.inr ⟨rfl, rfl, rfl⟩))⟩
  · exact ⟨zTrust, false, _, _, by simp_all [trustRoot], rfl, .inl ⟨rfl, rfl, rfl⟩⟩
theorem s_TrustIndexI (t : TTrust) (hT : TLen t) (num til : Int) (ms : List TMeta) (b : List Int) (now : Int) (h1 : ms.length ≤ 2000000) (h2 : b.length ≤ 2000000) :
    Ev (fun m => callF prg m 29 [aTrust t, .ag [iI num, iI til, .sl 3 (ms.map eMeta), .sl 1 (b.map iI)], iI now] []) (QTrust (trustIndex t ⟨num, til, ms⟩ b now)) := by
  have hk := hT.k
  have hm := hT.m
  (refine U29 (nl := 0) rfl ?_; unfold B29)
  repeat' (first | ((with_reducible refine eG ?_); first | (with_reducible first | refine ev_gtt ?_ | refine ev_gff ?_ | refine ev_gtf ?_ | refine ev_gft ?_ | refine ev_gu ?_) | refine ev_bd rfl ?_ | refine ev_bd0 rfl ?_ | ((with_reducible refine ev_gB ?_ ?_) <;> intro h)) | ((with_reducible refine eB ?_); first | ((with_reducible first | refine ev_lss ?_ ?_ | refine ev_leq ?_ ?_) <;> intro h <;> try (exfalso; omega)) | refine ev_bd rfl ?_ | refine ev_bd0 rfl ?_) | ((with_reducible refine eC ?_); first | ((refine ev_callB (s_TrustOkI t hT) rfl rfl ?_ rfl rfl ?_ ?_); (focus first | exact .inl rfl | exact .inr rfl | (refine .inr ?_; simp [flagC, ownF, hasSl3, hasSl1, SO.hasSl, List.all_map, flatSV, SV.cells, Function.comp_def]; done)); (all_goals (intro h)); (all_goals (try (exfalso; simp_all; done)))) | ((refine ev_callD (s_in ..) rfl rfl ?_ rfl rfl ?_ ?_); (focus first | exact .inl rfl | exact .inr rfl | (refine .inr ?_; simp [flagC, ownF, hasSl3, hasSl1, SO.hasSl, List.all_map, flatSV, SV.cells, Function.comp_def]; done)); (all_goals (intro h)); (all_goals (try (exfalso; first | omega | exact h rfl | exact h ⟨rfl, rfl, rfl⟩)))) | ((refine ev_call (s_copiedTrust t hT) rfl rfl ?_ rfl ?_); (focus first | exact .inl rfl | exact .inr rfl | (refine .inr ?_; simp [flagC, ownF, hasSl3, hasSl1, SO.hasSl, List.all_map, flatSV, SV.cells, Function.comp_def]; done))) | ((refine ev_callB (s_IndexOkI _ _ _ (by omega)) rfl rfl ?_ rfl rfl ?_ ?_); (focus first | exact .inl rfl | exact .inr rfl | (refine .inr ?_; simp [flagC, ownF, hasSl3, hasSl1, SO.hasSl, List.all_map, flatSV, SV.cells, Function.comp_def]; done)); (all_goals (intro h)); (all_goals (try (exfalso; simp_all; done)))) | ((refine ev_callB (s_RootSignedI _ _ _ _ (by omega) (by omega)) rfl rfl ?_ rfl rfl ?_ ?_); (focus first | exact .inl rfl | exact .inr rfl | (refine .inr ?_; simp [flagC, ownF, hasSl3, hasSl1, SO.hasSl, List.all_map, flatSV, SV.cells, Function.comp_def]; done)); (all_goals (intro h)); (all_goals (try (exfalso; simp_all; done)))) | ((refine ev_call (s_copiedIndex _ _ _ (by omega)) rfl rfl ?_ rfl ?_); (focus first | exact .inl rfl | exact .inr rfl | (refine .inr ?_; simp [flagC, ownF, hasSl3, hasSl1, SO.hasSl, List.all_map, flatSV, SV.cells, Function.comp_def]; done)))) | ((with_reducible refine eK ?_); first | (with_reducible first | refine ev_ct ?_ | refine ev_cf ?_) | ((with_reducible refine ev_cond ?_ ?_) <;> intro h)) | ((with_reducible refine eO ?_); first | refine ev_bd rfl ?_ | (refine ev_bdB rfl ?_ ?_ <;> intro h <;> try (exfalso; simp_all; done)) | refine ev_bd0 rfl ?_) | ((with_reducible refine eD ?_); first | refine ev_bd rfl ?_ | refine ev_bd0 rfl ?_ | ((with_reducible refine ev_pickB ?_ ?_) <;> intro h)) | refine ev_ret rfl ?_)
  all_goals first
    | exact ⟨⟨t.root, true, ⟨num, til, ms⟩⟩, true, by simp_all [trustIndex] <;> omega, rfl, rfl⟩
    | exact ⟨t, false, by simp_all [trustIndex] <;> omega, rfl, rfl⟩
    | exact ⟨zTrust, false, by simp_all [trustIndex] <;> omega, rfl, rfl⟩
    | trace_state
theorem s_l11Index (t : TTrust) (hT : TLen t) (num til : Int) (ms : List TMeta) (b : List Int) (now : Int) (h1 : ms.length ≤ 2000000) (h2 : b.length ≤ 2000000) :
    Ev (fun m => callF prg m 71 [aTrust t, .ag [iI num, iI til, .sl 3 (ms.map eMeta), .sl 1 (b.map iI)], iI now] [])
      (QTrustM (if indexOk num til ms = true ∧ rootSigned t.root b = true ∧ ¬ til < now ∧ ¬ (t.has = true ∧ num ≤ t.index.num) then (⟨t.root, true, ⟨num, til, ms⟩⟩, true) else (t, false))) := by
  have hk := hT.k
  have hm := hT.m
  (refine U71 (nl := 0) rfl ?_; unfold B71)
  repeat' (first | ((with_reducible refine eG ?_); first | (with_reducible first | refine ev_gtt ?_ | refine ev_gff ?_ | refine ev_gtf ?_ | refine ev_gft ?_ | refine ev_gu ?_) | refine ev_bd rfl ?_ | refine ev_bd0 rfl ?_ | ((with_reducible refine ev_gB ?_ ?_) <;> intro h)) | ((with_reducible refine eB ?_); first | ((with_reducible first | refine ev_lss ?_ ?_ | refine ev_leq ?_ ?_) <;> intro h <;> try (exfalso; omega)) | refine ev_bd rfl ?_ | refine ev_bd0 rfl ?_) | ((with_reducible refine eC ?_); first | ((refine ev_callB (s_IndexOkS _ _ _ (by omega)) rfl rfl ?_ rfl rfl ?_ ?_); (focus first | exact .inl rfl | exact .inr rfl | (refine .inr ?_; simp [flagC, ownF, hasSl3, hasSl1, SO.hasSl, List.all_map, flatSV, SV.cells, Function.comp_def]; done)); (all_goals (intro h)); (all_goals (try (exfalso; simp_all; done)))) | ((refine ev_callB (s_RootSignedS _ _ _ _ (by omega) (by omega)) rfl rfl ?_ rfl rfl ?_ ?_); (focus first | exact .inl rfl | exact .inr rfl | (refine .inr ?_; simp [flagC, ownF, hasSl3, hasSl1, SO.hasSl, List.all_map, flatSV, SV.cells, Function.comp_def]; done)); (all_goals (intro h)); (all_goals (try (exfalso; simp_all; done)))) | ((refine ev_call (s_l11IndexCopy _ _ _ (by omega)) rfl rfl ?_ rfl ?_); (focus first | exact .inl rfl | exact .inr rfl | (refine .inr ?_; simp [flagC, ownF, hasSl3, hasSl1, SO.hasSl, List.all_map, flatSV, SV.cells, Function.comp_def]; done)))) | ((with_reducible refine eK ?_); first | (with_reducible first | refine ev_ct ?_ | refine ev_cf ?_) | ((with_reducible refine ev_cond ?_ ?_) <;> intro h)) | ((with_reducible refine eO ?_); first | refine ev_bd rfl ?_ | (refine ev_bdB rfl ?_ ?_ <;> intro h <;> try (exfalso; simp_all; done)) | refine ev_bd0 rfl ?_) | ((with_reducible refine eD ?_); first | refine ev_bd rfl ?_ | refine ev_bd0 rfl ?_ | ((with_reducible refine ev_pickB ?_ ?_) <;> intro h)) | refine ev_ret rfl ?_)
  all_goals first
    | exact ⟨⟨t.root, true, ⟨num, til, ms⟩⟩, true, _, _, by simp_all <;> omega, rfl, .inr (.inr (.inr ⟨rfl, rfl, rfl⟩))⟩
    | exact ⟨t, false, _, _, by simp_all <;> omega, rfl, .inr (.inl ⟨rfl, rfl, rfl⟩)⟩
    | trace_state
theorem s_TrustIndexS (t : TTrust) (hT : TLen t) (num til : Int) (ms : List TMeta) (b : List Int) (now : Int) (h1 : ms.length ≤ 2000000) (h2 : b.length ≤ 2000000) :
    Ev (fun m => callF prg m 28 [aTrust t, .ag [iI num, iI til, .sl 3 (ms.map eMeta), .sl 1 (b.map iI)], iI now] []) (QTrustM (trustIndex t ⟨num, til, ms⟩ b now)) := by
  have hk := hT.k
  have hm := hT.m
  (refine U28 (nl := 0) rfl ?_; unfold B28)
  repeat' (first | ((with_reducible refine eG ?_); first | (with_reducible first | refine ev_gtt ?_ | refine ev_gff ?_ | refine ev_gtf ?_ | refine ev_gft ?_ | refine ev_gu ?_) | refine ev_bd rfl ?_ | refine ev_bd0 rfl ?_ | ((with_reducible refine ev_gB ?_ ?_) <;> intro h)) | ((with_reducible refine eC ?_); first | ((refine ev_callB (s_TrustOkS t hT) rfl rfl ?_ rfl rfl ?_ ?_); (focus first | exact .inl rfl | exact .inr rfl | (refine .inr ?_; simp [flagC, ownF, hasSl3, hasSl1, SO.hasSl, List.all_map, flatSV, SV.cells, Function.comp_def]; done)); (all_goals (intro h)); (all_goals (try (exfalso; simp_all; done)))) | ((refine ev_callD (s_l6In ..) rfl rfl ?_ rfl rfl ?_ ?_); (focus first | exact .inl rfl | exact .inr rfl | (refine .inr ?_; simp [flagC, ownF, hasSl3, hasSl1, SO.hasSl, List.all_map, flatSV, SV.cells, Function.comp_def]; done)); (all_goals (intro h)); (all_goals (try (exfalso; first | omega | exact h rfl | exact h ⟨rfl, rfl, rfl⟩)))) | ((refine ev_call (s_l11Copy t hT) rfl rfl ?_ rfl ?_); (focus first | exact .inl rfl | exact .inr rfl | (refine .inr ?_; simp [flagC, ownF, hasSl3, hasSl1, SO.hasSl, List.all_map, flatSV, SV.cells, Function.comp_def]; done))) | ((refine ev_callE (s_l11Index t hT num til ms b now h1 h2) rfl rfl ?_); ((rintro _ _ ⟨t', ok, _, _, he, rfl, ⟨rfl, rfl, rfl⟩ | ⟨rfl, rfl, rfl⟩ | ⟨rfl, rfl, rfl⟩ | ⟨rfl, rfl, rfl⟩⟩) <;> (first | (refine ev_post ?_ rfl ?_; (focus first | exact .inl rfl | exact .inr rfl | (refine .inr ?_; simp [flagC, ownF, hasSl3, hasSl1, SO.hasSl, List.all_map, flatSV, SV.cells, Function.comp_def]; done))) | (refine ev_postF ?_ rfl ?_; (focus first | rfl | (simp [flagC, ownF, hasSl3, hasSl1, SO.hasSl, List.all_map, flatSV, SV.cells, Function.comp_def]; done))))))) | ((with_reducible refine eK ?_); first | (with_reducible first | refine ev_ct ?_ | refine ev_cf ?_) | ((with_reducible refine ev_cond ?_ ?_) <;> intro h)) | ((with_reducible refine eO ?_); first | refine ev_bd rfl ?_ | (refine ev_bdB rfl ?_ ?_ <;> intro h <;> try (exfalso; simp_all; done)) | refine ev_bd0 rfl ?_) | ((with_reducible refine eD ?_); first | refine ev_bd rfl ?_ | refine ev_bd0 rfl ?_ | ((with_reducible refine ev_pickB ?_ ?_) <;> intro h)) | ((with_reducible refine ev_dchk ?_ ?_); · intro _; rfl) | refine ev_ret rfl ?_)
  all_goals first
    | exact ⟨t', ok, _, _, by rw [← he]; simp_all [trustIndex], rfl, .inl ⟨rfl, rfl, rfl⟩⟩
    | exact ⟨t', ok, _, _, by rw [← he]; simp_all [trustIndex], rfl, .inr (.inl ⟨rfl, rfl, rfl⟩)⟩
    | exact ⟨t', ok, _, _, by rw [← he]; simp_all [trustIndex], rfl, .inr (.inr (.inl ⟨rfl, rfl, rfl⟩))⟩
    | exact ⟨t', ok, _, _, by rw [← he]; simp_all [trustIndex], rfl, .inr (.inr (.inr ⟨rfl, rfl, rfl⟩))⟩
    | exact ⟨zTrust, false, _, _, by simp_all [trustIndex] <;> omega, rfl, .inl ⟨rfl, rfl, rfl⟩⟩
    | trace_state

end Go.Proofs.Ytjfegdlgepbjoaa
