/- The evaluator S and what it says of functions: V4, V5, Tf, V6, V7. -/
import Derived.Test.YtikennabfbkdhaaV2
import Derived.Test.YtikennabfbkdhaaV3
import Derived.Test.YtikennabfbkdhaaTd
/- Trust begins with a root. -/
namespace Go.Proofs.Ytikennabfbkdhaa
open Go
set_option linter.unusedVariables false
set_option linter.unusedSimpArgs false
set_option maxHeartbeats 4000000
def zTrust : TTrust := ⟨⟨0, [], 0⟩, false, ⟨0, 0, []⟩⟩
def trustNew (r : TRoot) : TTrust × Bool := if rootOk r.num r.keys r.need = true then (⟨r, false, ⟨0, 0, []⟩⟩, true) else (zTrust, false)
def QTrust (p : TTrust × Bool) : SV → List SO → Prop := fun x os => ∃ t ok, p = (t, ok) ∧ x = .tup [rTrust t, bB ok] ∧ os = oTrust t
theorem s_TrustNewI (num : Int) (keys : List Int) (need : Int) (h47 : keys.length ≤ 17592186044416) : Ev (fun m => callF prg m 26 [.ag [iI num, .sl 1 (keys.map iI), iI need]] []) (QTrust (trustNew ⟨num, keys, need⟩)) := by
  (refine U26 (nl := 0) rfl ?_; unfold B26)
  repeat' (first | ((with_reducible refine eC ?_); first | ((refine ev_callB (s_RootOkI _ _ _ (by omega)) rfl rfl ?_ rfl rfl ?_ ?_); (focus first | exact .inl rfl | exact .inr rfl | (refine .inr ?_; simp [flagC, ownF, hasSl3, hasSl1, SO.hasSl, List.all_map, flatSV, SV.cells, Function.comp_def]; done)); (all_goals (intro h)); (all_goals (try (exfalso; simp_all; done)))) | ((refine ev_call (s_copiedRoot _ _ _ h47) rfl rfl ?_ rfl ?_); (focus first | exact .inl rfl | exact .inr rfl | (refine .inr ?_; simp [flagC, ownF, hasSl3, hasSl1, SO.hasSl, List.all_map, flatSV, SV.cells, Function.comp_def]; done)))) | ((with_reducible refine eK ?_); first | (with_reducible first | refine ev_ct ?_ | refine ev_cf ?_) | ((with_reducible refine ev_cond ?_ ?_) <;> intro h)) | ((with_reducible refine eO ?_); first | refine ev_bd rfl ?_ | (refine ev_bdB rfl ?_ ?_ <;> intro h <;> try (exfalso; simp_all; done)) | refine ev_bd0 rfl ?_) | ((with_reducible refine eD ?_); first | refine ev_bd rfl ?_ | refine ev_bd0 rfl ?_) | refine ev_ret rfl ?_)
  all_goals first | exact ⟨_, _, by simp [trustNew, *]; rfl, rfl, rfl⟩ | exact ⟨_, _, by simp [trustNew, *]; exact ⟨rfl, rfl⟩, rfl, rfl⟩ | trace_state
theorem s_TrustNewS (num : Int) (keys : List Int) (need : Int) (h47 : keys.length ≤ 17592186044416) : Ev (fun m => callF prg m 20 [.ag [iI num, .sl 1 (keys.map iI), iI need]] []) (QTrust (trustNew ⟨num, keys, need⟩)) := by
  (refine U20 (nl := 0) rfl ?_; unfold B20)
  repeat' (first | ((with_reducible refine eC ?_); first | ((refine ev_callB (s_RootOkS _ _ _ (by omega)) rfl rfl ?_ rfl rfl ?_ ?_); (focus first | exact .inl rfl | exact .inr rfl | (refine .inr ?_; simp [flagC, ownF, hasSl3, hasSl1, SO.hasSl, List.all_map, flatSV, SV.cells, Function.comp_def]; done)); (all_goals (intro h)); (all_goals (try (exfalso; simp_all; done)))) | ((refine ev_call (s_l11RootCopy _ _ _ h47) rfl rfl ?_ rfl ?_); (focus first | exact .inl rfl | exact .inr rfl | (refine .inr ?_; simp [flagC, ownF, hasSl3, hasSl1, SO.hasSl, List.all_map, flatSV, SV.cells, Function.comp_def]; done)))) | ((with_reducible refine eK ?_); first | (with_reducible first | refine ev_ct ?_ | refine ev_cf ?_) | ((with_reducible refine ev_cond ?_ ?_) <;> intro h)) | ((with_reducible refine eO ?_); first | refine ev_bd rfl ?_ | (refine ev_bdB rfl ?_ ?_ <;> intro h <;> try (exfalso; simp_all; done)) | refine ev_bd0 rfl ?_) | ((with_reducible refine eD ?_); first | refine ev_bd rfl ?_ | refine ev_bd0 rfl ?_) | refine ev_ret rfl ?_)
  all_goals first | exact ⟨_, _, by simp [trustNew, *]; rfl, rfl, rfl⟩ | exact ⟨_, _, by simp [trustNew, *]; exact ⟨rfl, rfl⟩, rfl, rfl⟩ | trace_state
end Go.Proofs.Ytikennabfbkdhaa

/- Keys among both; who has signed. -/
namespace Go.Proofs.Ytikennabfbkdhaa
open Go
set_option linter.unusedVariables false
set_option linter.unusedSimpArgs false
set_option maxHeartbeats 4000000
theorem keysOk_iff {l : List Int} : keysOk l = true ↔ ∀ i, i < l.length → keyAt l i := by simp [keysOk]
theorem keys_grow {l : List Int} (h : keysOk l = true) : ∀ j i, i < j → j < l.length → nth l i < nth l j := by
  intro j
  induction j with
  | zero => intro i hi; omega
  | succ j ih =>
    intro i hi hj
    have h1 := (keysOk_iff.1 h (j + 1) hj).2.2 (by omega)
    simp only [Nat.add_sub_cancel] at h1
    by_cases e : i = j
    · subst e; exact h1
    · have := ih i (by omega) (by omega); omega
theorem keys_low {l : List Int} (h : keysOk l = true) : ∀ i, i < l.length → (i : Int) + 1 ≤ nth l i := by
  intro i
  induction i with
  | zero => intro hi; have := (keysOk_iff.1 h 0 hi).1; omega
  | succ i ih =>
    intro hi
    have h1 := ih (by omega)
    have h2 := keys_grow h (i + 1) i (by omega) hi
    omega
theorem keysOk_len {l : List Int} (h : keysOk l = true) : l.length ≤ 6 := by
  by_cases e : l.length ≤ 6
  · exact e
  · have h1 := keys_low h 6 (by omega)
    have h2 := (keysOk_iff.1 h 6 (by omega)).2.1
    omega
def cnt (b : List Int) (v : Int) : Nat := (b.filter fun x => decide (v = x)).length
def both' (a b : List Int) : Nat := (a.filter fun x => decide (x ∈ b)).length
def pairs (a b : List Int) : Nat := (a.map (cnt b)).sum
theorem cnt_le (b : List Int) (v : Int) : cnt b v ≤ b.length := List.length_filter_le _ _
theorem both_le (a b : List Int) : both' a b ≤ a.length := List.length_filter_le _ _
theorem cnt_app (b c : List Int) (v : Int) : cnt (b ++ c) v = cnt b v + cnt c v := by simp [cnt]
theorem cnt_one (x v : Int) : cnt [x] v = if v = x then 1 else 0 := by
  unfold cnt; by_cases e : v = x <;> simp [e]
theorem keys_cnt {b : List Int} (h : keysOk b = true) (v : Int) : cnt b v = if v ∈ b then 1 else 0 := by
  have key : ∀ k, k ≤ b.length → cnt (b.take k) v = if v ∈ b.take k then 1 else 0 := by
    intro k
    induction k with
    | zero => intro _; simp [cnt]
    | succ k ih =>
      intro hk
      rw [take_nth (by omega), cnt_app, ih (by omega), cnt_one]
      by_cases e : v = nth b k
      · have : v ∉ b.take k := fun hm => by
          obtain ⟨j, hj, e'⟩ := mem_nth hm
          rw [List.length_take] at hj
          have h1 : nth (b.take k) j = nth b j := by
            unfold nth; simp only [List.getD_eq_getElem?_getD, List.getElem?_take]; rw [if_pos (by omega)]
          have := keys_grow h k j (by omega) (by omega)
          omega
        simp [e]; rw [← e]; simp [this]
      · simp [e]
  have := key b.length (Nat.le_refl _)
  rwa [List.take_length] at this
theorem pairs_both {a b : List Int} (h : keysOk b = true) : pairs a b = both' a b := by
  unfold pairs both'
  induction a with
  | nil => rfl
  | cons x xs ih =>
    rw [List.map_cons, List.sum_cons, ih, keys_cnt h]
    by_cases e : x ∈ b <;> simp [e] <;> omega
theorem s_IndexInt_L (l : List Int) (v : Int) (hl : l.length ≤ 140737488355328) : ∀ i, i ≤ l.length → v ∉ l.take i → ∀ (k : Int) (c : Nat), k = i →
    Ev (fun n => L84_2 (callF prg n) (n + 1) 0 (n + 1 - c) (.sl 1 (l.map iI)) (iI v) (iI l.length) (iI k) []) (fun x os => ∃ z : Int, x = iI z ∧ os = [] ∧ (0 ≤ z ↔ v ∈ l)) := by
  refine up_ind ?_
  intro i hi ih hp k c hk
  subst hk
  (refine UL84_2 ?_; unfold LB84_2)
  repeat' (first | ((with_reducible refine eB ?_); first | ((with_reducible first | refine ev_lss ?_ ?_ | refine ev_eql ?_ ?_) <;> intro h <;> try (exfalso; omega)) | ((with_reducible refine ev_add ?_ ?_); · omega) | refine ev_bd rfl ?_ | refine ev_bd0 rfl ?_) | ((with_reducible refine eI ?_); first | ((with_reducible refine ev_idx ?_ ?_ ?_); (· rfl); · omega) | (refine ev_idxo rfl rfl ?_ ?_; (· first | omega | (simp only [List.length_cons, List.length_nil, List.length_map, List.length_append]; omega))) | refine ev_bd rfl ?_ | refine ev_bd0 rfl ?_) | ((with_reducible refine eK ?_); first | (with_reducible first | refine ev_ct ?_ | refine ev_cf ?_) | ((with_reducible refine ev_cond ?_ ?_) <;> intro h)) | ((with_reducible refine eO ?_); first | refine ev_bd rfl ?_ | (refine ev_bdB rfl ?_ ?_ <;> intro h <;> try (exfalso; simp_all; done)) | refine ev_bd0 rfl ?_) | ((with_reducible refine eD ?_); first | refine ev_bd rfl ?_ | refine ev_bd0 rfl ?_) | ((with_reducible refine ih ?_ ?_ _ _ ?_) <;> (first | omega | assumption | ((rw [take_nth (by omega)]; simp_all)) | (simp only [*, List.map_append, List.length_append, List.length_cons, List.length_nil, List.map_cons, List.map_nil]; done) | (simp_all; done) | (simp_all; omega))) | refine ev_ret rfl ?_)
  · refine ⟨_, rfl, rfl, ?_⟩
    simp only [Int.toNat_natCast] at h
    have := nth_mem (l := l) (k := i) (by omega)
    rw [← h] at this
    simp [this]
  · refine ⟨_, rfl, rfl, ?_⟩
    rw [List.take_of_length_le (by omega)] at hp
    simp [hp]
theorem s_IndexInt (l : List Int) (v : Int) (hl : l.length ≤ 140737488355328) : ∃ z : Int, (0 ≤ z ↔ v ∈ l) ∧ Ex (fun m => callF prg m 84 [.sl 1 (l.map iI), iI v] []) (iI z) [] := by
  have key : Ev (fun m => callF prg m 84 [.sl 1 (l.map iI), iI v] []) (fun x os => ∃ z : Int, x = iI z ∧ os = [] ∧ (0 ≤ z ↔ v ∈ l)) := by
    (refine U84 (nl := 0) rfl ?_; unfold B84)
    repeat' (first | ((with_reducible refine eL ?_); first | ((with_reducible refine ev_lenm ?_ ?_); · rfl) | refine ev_lenom rfl rfl ?_ | refine ev_lenoc rfl rfl rfl ?_ | refine ev_lenc rfl rfl ?_ | refine ev_leno rfl rfl ?_ | refine ev_slen rfl ?_ | refine ev_bd rfl ?_ | refine ev_bd0 rfl ?_) | ((with_reducible refine eD ?_); first | refine ev_bd rfl ?_ | refine ev_bd0 rfl ?_) | ( exact s_IndexInt_L l v hl 0 (by omega) (by simp) 0 0 rfl) | refine ev_ret rfl ?_)
  obtain ⟨x, os, ⟨z, rfl, rfl, hz⟩, he⟩ := key
  exact ⟨z, hz, he⟩
theorem s_ContainsInt (l : List Int) (v : Int) (hl : l.length ≤ 140737488355328) : Ex (fun m => callF prg m 67 [.sl 1 (l.map iI), iI v] []) (bB (decide (v ∈ l))) [] := by
  refine ev_is.1 ?_
  (refine U67 (nl := 0) rfl ?_; unfold B67)
  repeat' (first | ((with_reducible refine eB ?_); first | ((with_reducible refine ev_geq ?_ ?_) <;> intro h <;> try (exfalso; omega)) | refine ev_bd rfl ?_ | refine ev_bd0 rfl ?_) | ((with_reducible refine eC ?_); first | ((refine ev_callN (s_IndexInt _ _ hl) rfl rfl ?_ (fun _ => rfl) ?_); (· first | exact .inl rfl | exact .inr (fun _ => rfl)); (first | (have q0 := z3; clear q0; intro z4 hz4) | (have q0 := z2; clear q0; intro z3 hz3) | (have q0 := z; clear q0; intro z2 hz2) | (intro z hz)))) | ((with_reducible refine eD ?_); first | refine ev_bd rfl ?_ | refine ev_bd0 rfl ?_) | refine ev_ret rfl ?_)
  all_goals (refine ⟨congrArg (fun b => SV.v (Value.bool b)) ?_, rfl⟩; first | (simp_all []; done) | (simp_all []; omega) | (simp [] at *; omega) | (simp []; omega) | grind [] | trace_state)
def keysBoth (a b : List Int) : Int := if keysOk a = true ∧ keysOk b = true then both' a b else -1
theorem both_step {a b : List Int} {i : Nat} (hi : i < a.length) : both' (a.take (i + 1)) b = both' (a.take i) b + if nth a i ∈ b then 1 else 0 := by
  rw [take_nth hi]
  unfold both'
  by_cases e : nth a i ∈ b <;> simp [e]
theorem s_KeysBoth_L (a b : List Int) (ha : keysOk a = true) (hb : keysOk b = true) : ∀ i, i ≤ a.length → ∀ (m k : Int) (c : Nat), m = both' (a.take i) b → k = i →
    Ev (fun n => L44_5 (callF prg n) (n + 1) 0 (n + 1 - c) (.sl 1 (b.map iI)) (iI m) (.sl 1 (a.map iI)) (iI a.length) (iI k) []) (Is (iI (keysBoth a b)) []) := by
  have la := keysOk_len ha
  have lb := keysOk_len hb
  refine up_ind ?_
  intro i hi ih m k c hm hk
  subst hk
  have hle := both_le (a.take i) b
  have hlt : (a.take i).length ≤ a.length := by simp; omega
  (refine UL44_5 ?_; unfold LB44_5)
  repeat' (first | ((with_reducible refine eB ?_); first | ((with_reducible refine ev_lss ?_ ?_) <;> intro h <;> try (exfalso; omega)) | ((with_reducible refine ev_add ?_ ?_); · omega) | refine ev_bd rfl ?_ | refine ev_bd0 rfl ?_) | ((with_reducible refine eI ?_); first | ((with_reducible refine ev_idx ?_ ?_ ?_); (· rfl); · omega) | (refine ev_idxo rfl rfl ?_ ?_; (· first | omega | (simp only [List.length_cons, List.length_nil, List.length_map, List.length_append]; omega))) | refine ev_bd rfl ?_ | refine ev_bd0 rfl ?_) | ((with_reducible refine eC ?_); first | ((refine ev_callD (s_ContainsInt _ _ (by omega)) rfl rfl ?_ rfl rfl ?_ ?_); (focus first | exact .inl rfl | exact .inr rfl | (refine .inr ?_; simp [flagC, ownF, hasSl3, hasSl1, SO.hasSl, List.all_map, flatSV, SV.cells, Function.comp_def]; done)); (all_goals (intro h)); (all_goals (try (exfalso; first | omega | exact h rfl | exact h ⟨rfl, rfl, rfl⟩))))) | ((with_reducible refine eK ?_); first | (with_reducible first | refine ev_ct ?_ | refine ev_cf ?_) | ((with_reducible refine ev_cond ?_ ?_) <;> intro h)) | ((with_reducible refine eO ?_); first | refine ev_bd rfl ?_ | (refine ev_bdB rfl ?_ ?_ <;> intro h <;> try (exfalso; simp_all; done)) | refine ev_bd0 rfl ?_) | ((with_reducible refine eD ?_); first | refine ev_bd rfl ?_ | refine ev_bd0 rfl ?_) | ((with_reducible refine UJ44_9 ?_); (unfold JB44_9)) | ((with_reducible refine ih ?_ _ _ _ ?_ ?_) <;> (first | omega | assumption | ((rw [both_step (by omega)]; simp_all)) | (simp only [*, List.map_append, List.length_append, List.length_cons, List.length_nil, List.map_cons, List.map_nil]; done) | (simp_all; done) | (simp_all; omega))) | refine ev_ret rfl ?_)
  refine ⟨congrArg iI ?_, rfl⟩
  rw [hm, List.take_of_length_le (by omega)]
  simp [keysBoth, ha, hb]
theorem s_KeysBoth (a b : List Int) (ha : a.length ≤ 140737488355328) (hb : b.length ≤ 140737488355328) : Ex (fun m => callF prg m 44 [.sl 1 (a.map iI), .sl 1 (b.map iI)] []) (iI (keysBoth a b)) [] := by
  refine ev_is.1 ?_
  (refine U44 (nl := 0) rfl ?_; unfold B44)
  repeat' (first | ((with_reducible refine eG ?_); first | (with_reducible first | refine ev_gtt ?_ | refine ev_gff ?_ | refine ev_gtf ?_ | refine ev_gft ?_ | refine ev_gu ?_) | refine ev_bd rfl ?_ | refine ev_bd0 rfl ?_ | ((with_reducible refine ev_gB ?_ ?_) <;> intro h)) | ((with_reducible refine eL ?_); first | ((with_reducible refine ev_lenm ?_ ?_); · rfl) | refine ev_lenom rfl rfl ?_ | refine ev_lenoc rfl rfl rfl ?_ | refine ev_lenc rfl rfl ?_ | refine ev_leno rfl rfl ?_ | refine ev_slen rfl ?_ | refine ev_bd rfl ?_ | refine ev_bd0 rfl ?_) | ((with_reducible refine eC ?_); first | ((refine ev_callB (s_KeysOkI _ (by omega)) rfl rfl ?_ rfl rfl ?_ ?_); (focus first | exact .inl rfl | exact .inr rfl | (refine .inr ?_; simp [flagC, ownF, hasSl3, hasSl1, SO.hasSl, List.all_map, flatSV, SV.cells, Function.comp_def]; done)); (all_goals (intro h)); (all_goals (try (exfalso; simp_all; done))))) | ((with_reducible refine eK ?_); first | (with_reducible first | refine ev_ct ?_ | refine ev_cf ?_) | ((with_reducible refine ev_cond ?_ ?_) <;> intro h)) | ((with_reducible refine eD ?_); first | refine ev_bd rfl ?_ | refine ev_bd0 rfl ?_ | ((with_reducible refine ev_pickB ?_ ?_) <;> intro h)) | ( exact s_KeysBoth_L a b (by assumption) (by assumption) 0 (by omega) 0 0 0 (by simp [both']) rfl) | refine ev_ret rfl ?_)
  all_goals exact ⟨congrArg iI (by simp [keysBoth, *]), rfl⟩
def rootSigned (r : TRoot) (by_ : List Int) : Bool := rootOk r.num r.keys r.need && keysOk by_ && decide (r.need ≤ both' r.keys by_)
theorem rootSigned_iff {r : TRoot} {b : List Int} : rootSigned r b = true ↔ rootOk r.num r.keys r.need = true ∧ keysOk b = true ∧ r.need ≤ both' r.keys b := by
  simp [rootSigned, and_assoc]
def rootNext (r s : TRoot) (by_ : List Int) : Bool := rootSigned r by_ && rootSigned s by_ && decide (s.num = r.num + 1)
theorem s_RootSignedI (num : Int) (keys : List Int) (need : Int) (b : List Int) (h1 : keys.length ≤ 140737488355328) (h2 : b.length ≤ 140737488355328) :
    Ex (fun m => callF prg m 11 [.ag [iI num, .sl 1 (keys.map iI), iI need], .sl 1 (b.map iI)] []) (bB (rootSigned ⟨num, keys, need⟩ b)) [] := by
  refine ev_is.1 ?_
  (refine U11 (nl := 0) rfl ?_; unfold B11)
  repeat' (first | ((with_reducible refine eG ?_); first | (with_reducible first | refine ev_gtt ?_ | refine ev_gff ?_ | refine ev_gtf ?_ | refine ev_gft ?_ | refine ev_gu ?_) | refine ev_bd rfl ?_ | refine ev_bd0 rfl ?_ | ((with_reducible refine ev_gB ?_ ?_) <;> intro h)) | ((with_reducible refine eB ?_); first | ((with_reducible refine ev_geq ?_ ?_) <;> intro h <;> try (exfalso; omega)) | refine ev_bd rfl ?_ | refine ev_bd0 rfl ?_) | ((with_reducible refine eC ?_); first | ((refine ev_callB (s_RootOkI _ _ _ h1) rfl rfl ?_ rfl rfl ?_ ?_); (focus first | exact .inl rfl | exact .inr rfl | (refine .inr ?_; simp [flagC, ownF, hasSl3, hasSl1, SO.hasSl, List.all_map, flatSV, SV.cells, Function.comp_def]; done)); (all_goals (intro h)); (all_goals (try (exfalso; simp_all; done)))) | ((refine ev_callB (s_KeysOkI _ h2) rfl rfl ?_ rfl rfl ?_ ?_); (focus first | exact .inl rfl | exact .inr rfl | (refine .inr ?_; simp [flagC, ownF, hasSl3, hasSl1, SO.hasSl, List.all_map, flatSV, SV.cells, Function.comp_def]; done)); (all_goals (intro h)); (all_goals (try (exfalso; simp_all; done)))) | ((refine ev_call (s_KeysBoth _ _ h1 h2) rfl rfl ?_ rfl ?_); (focus first | exact .inl rfl | exact .inr rfl | (refine .inr ?_; simp [flagC, ownF, hasSl3, hasSl1, SO.hasSl, List.all_map, flatSV, SV.cells, Function.comp_def]; done)))) | ((with_reducible refine eO ?_); first | refine ev_bd rfl ?_ | (refine ev_bdB rfl ?_ ?_ <;> intro h <;> try (exfalso; simp_all; done)) | refine ev_bd0 rfl ?_) | ((with_reducible refine eD ?_); first | refine ev_bd rfl ?_ | refine ev_bd0 rfl ?_ | ((with_reducible refine ev_pickB ?_ ?_) <;> intro h)) | ((with_reducible refine ev_dchk ?_ ?_); · intro _; rfl) | refine ev_ret rfl ?_)
  all_goals first
    | (have hk := (rootOk_iff.1 (by assumption)).2.1
       exact ⟨congrArg bB (by simp_all [rootSigned, keysBoth]), rfl⟩)
    | exact ⟨congrArg bB (by simp_all [rootSigned]), rfl⟩
    | trace_state
theorem s_l2Both_L6 (a b : List Int) (ha : a.length ≤ 1000) (hb : b.length ≤ 1000) (i : Nat) (hi : i < a.length) (base : Nat) (hbase : base ≤ 1000000) (m3 : Nat → Nat) {Q : SV → List SO → Prop}
    (hout : Ev (fun n => L19_3 (callF prg n) (n + 1) 0 (m3 n) (.sl 1 (a.map iI)) (.sl 1 (b.map iI)) (iI ((base + cnt b (nth a i) : Nat) : Int)) (iI ((i : Int) + 1)) []) Q) :
    ∀ k, k ≤ b.length → ∀ (m j : Int) (c : Nat), m = ((base + cnt (b.take k) (nth a i) : Nat) : Int) → j = k →
    Ev (fun n => L19_6 (callF prg n) (n + 1) 0 (m3 n) (n + 1 - c) (.sl 1 (a.map iI)) (.sl 1 (b.map iI)) (iI m) (iI (i : Int)) (iI j) []) Q := by
  refine up_ind ?_
  intro k hk ih m j c hm hj
  subst hj
  have hc := cnt_le (b.take k) (nth a i)
  have hl : (b.take k).length ≤ b.length := by simp; omega
  (refine UL19_6 ?_; unfold LB19_6)
  repeat' (first | ((with_reducible refine eB ?_); first | ((with_reducible first | refine ev_lss ?_ ?_ | refine ev_eql ?_ ?_) <;> intro h <;> try (exfalso; omega)) | ((with_reducible refine ev_add ?_ ?_); · omega) | refine ev_bd rfl ?_ | refine ev_bd0 rfl ?_) | ((with_reducible refine eL ?_); first | ((with_reducible refine ev_lenm ?_ ?_); · rfl) | refine ev_lenom rfl rfl ?_ | refine ev_lenoc rfl rfl rfl ?_ | refine ev_lenc rfl rfl ?_ | refine ev_leno rfl rfl ?_ | refine ev_slen rfl ?_ | refine ev_bd rfl ?_ | refine ev_bd0 rfl ?_) | ((with_reducible refine eI ?_); first | ((with_reducible refine ev_idx ?_ ?_ ?_); (· rfl); · omega) | (refine ev_idxo rfl rfl ?_ ?_; (· first | omega | (simp only [List.length_cons, List.length_nil, List.length_map, List.length_append]; omega))) | refine ev_bd rfl ?_ | refine ev_bd0 rfl ?_) | ((with_reducible refine eK ?_); first | (with_reducible first | refine ev_ct ?_ | refine ev_cf ?_) | ((with_reducible refine ev_cond ?_ ?_) <;> intro h)) | ((with_reducible refine eO ?_); first | refine ev_bd rfl ?_ | (refine ev_bdB rfl ?_ ?_ <;> intro h <;> try (exfalso; simp_all; done)) | refine ev_bd0 rfl ?_) | ((with_reducible refine eD ?_); first | refine ev_bd rfl ?_ | refine ev_bd0 rfl ?_) | ((with_reducible refine UJ19_7 ?_); (unfold JB19_7)) | ((with_reducible refine ih ?_ _ _ _ ?_ ?_) <;> (first | omega | assumption | ((rw [take_nth (by omega), cnt_app, cnt_one]; simp_all)) | (simp only [*, List.map_append, List.length_append, List.length_cons, List.length_nil, List.map_cons, List.map_nil]; done) | (simp_all; done) | (simp_all; omega))) | ( (rw [List.take_of_length_le (by omega)] at hm; rw [hm]; exact hout)) | refine ev_ret rfl ?_)
  all_goals first | omega | trace_state
theorem s_l2Both_L (a b : List Int) (ha : a.length ≤ 1000) (hb : b.length ≤ 1000) : ∀ i, i ≤ a.length → ∀ (m k : Int) (c : Nat), m = (pairs (a.take i) b : Int) → k = i →
    Ev (fun n => L19_3 (callF prg n) (n + 1) 0 (n + 1 - c) (.sl 1 (a.map iI)) (.sl 1 (b.map iI)) (iI m) (iI k) []) (Is (iI (pairs a b)) []) := by
  have hs : ∀ i, i < a.length → pairs (a.take (i + 1)) b = pairs (a.take i) b + cnt b (nth a i) := by
    intro i hi
    rw [take_nth hi]
    unfold pairs
    simp only [List.map_append, List.sum_append, List.map_cons, List.map_nil, List.sum_cons, List.sum_nil, Nat.add_zero]
  have hp : ∀ i, i ≤ a.length → pairs (a.take i) b ≤ i * 1000 := by
    intro i
    induction i with
    | zero => intro _; simp [pairs]
    | succ i ih =>
      intro hi
      have := ih (by omega)
      have h2 := cnt_le b (nth a i)
      rw [hs i (by omega)]
      omega
  refine up_ind ?_
  intro i hi ih m k c hm hk
  subst hk
  have h3 := hp i hi
  (refine UL19_3 ?_; unfold LB19_3)
  repeat' (first | ((with_reducible refine eB ?_); first | ((with_reducible refine ev_lss ?_ ?_) <;> intro h <;> try (exfalso; omega)) | refine ev_bd rfl ?_ | refine ev_bd0 rfl ?_) | ((with_reducible refine eL ?_); first | ((with_reducible refine ev_lenm ?_ ?_); · rfl) | refine ev_lenom rfl rfl ?_ | refine ev_lenoc rfl rfl rfl ?_ | refine ev_lenc rfl rfl ?_ | refine ev_leno rfl rfl ?_ | refine ev_slen rfl ?_ | refine ev_bd rfl ?_ | refine ev_bd0 rfl ?_) | ((with_reducible refine eK ?_); first | (with_reducible first | refine ev_ct ?_ | refine ev_cf ?_) | ((with_reducible refine ev_cond ?_ ?_) <;> intro h)) | ((with_reducible refine eD ?_); first | refine ev_bd rfl ?_ | refine ev_bd0 rfl ?_) | ((with_reducible refine ih ?_ _ _ _ ?_ ?_) <;> (first | omega | assumption | ((rw [hs i (by omega)])) | (simp only [*, List.map_append, List.length_append, List.length_cons, List.length_nil, List.map_cons, List.map_nil]; done) | (simp_all; done) | (simp_all; omega))) | ( (refine s_l2Both_L6 a b ha hb i (by omega) (pairs (a.take i) b) (by omega) (fun n => n + 1 - (c + 1)) ?_ 0 (by omega) _ _ 0 (by simp [cnt, hm]) rfl)) | refine ev_ret rfl ?_)
  exact ⟨congrArg iI (by rw [hm, List.take_of_length_le (by omega)]), rfl⟩
theorem s_l2Both (a b : List Int) (ha : a.length ≤ 1000) (hb : b.length ≤ 1000) : Ex (fun m => callF prg m 19 [.sl 1 (a.map iI), .sl 1 (b.map iI)] []) (iI (pairs a b)) [] := by
  refine ev_is.1 ?_
  (refine U19 (nl := 0) rfl ?_; unfold B19)
  exact s_l2Both_L a b ha hb 0 (by omega) 0 0 0 (by simp [pairs]) rfl
def trustRoot (t : TTrust) (s : TRoot) (b : List Int) : TTrust × Bool :=
  if trustOk t = true then (if rootNext t.root s b = true then (⟨s, t.has, t.index⟩, true) else (t, false)) else (zTrust, false)
def trustIndex (t : TTrust) (x : TIndex) (b : List Int) (now : Int) : TTrust × Bool :=
  if trustOk t = true ∧ 0 ≤ now ∧ now ≤ 60 then
    (if indexOk x.num x.til x.metas = true ∧ rootSigned t.root b = true ∧ ¬ x.til < now ∧ ¬ (t.has = true ∧ x.num ≤ t.index.num) then (⟨t.root, true, x⟩, true) else (t, false))
  else (zTrust, false)
def TP (t : TTrust) (k m : SV) (os : List SO) : Prop :=
  (k = .osl 0 ∧ m = .osl 1 ∧ os = oTrust t) ∨ (k = .sl 1 (t.root.keys.map iI) ∧ m = .sl 3 (t.index.metas.map eMeta) ∧ os = []) ∨
  (k = .osl 0 ∧ m = .sl 3 (t.index.metas.map eMeta) ∧ os = [.arr false 1 (t.root.keys.map iI)]) ∨ (k = .sl 1 (t.root.keys.map iI) ∧ m = .osl 0 ∧ os = [.arr false 3 (t.index.metas.map eMeta)])
abbrev mTrust (t : TTrust) (k m : SV) : SV := .ag [iI t.root.num, k, iI t.root.need, bB t.has, iI t.index.num, iI t.index.til, m]
def QTrustM (p : TTrust × Bool) : SV → List SO → Prop := fun x os => ∃ t ok k m, p = (t, ok) ∧ x = .tup [mTrust t k m, bB ok] ∧ TP t k m os
end Go.Proofs.Ytikennabfbkdhaa

/- The evaluator S: more steps: storing into an element of an array of typed elements; nothing else. -/
namespace Go.Proofs.Ytikennabfbkdhaa
open Go
set_option linter.unusedVariables false
set_option linter.unusedSimpArgs false
theorem deVw_pure {y : SV} {os os1 : List SO} {ys : List SV} (hp : pureCells y.cells os = some (ys, os1)) : ∃ z os0, deVw os y = some (z, os0) ∧ pureCells z.cells os0 = some (ys, os1) ∧ z.cells.length = y.cells.length := by
  cases y with
  | vw j lo hi =>
    simp only [SV.cells, pureCells] at hp
    split at hp
    · rename_i y0 os2 h0
      cases hp
      refine ⟨y0, os1, h0, ?_, ?_⟩ <;>
      · unfold pureCell at h0
        simp only at h0
        split at h0
        · split at h0
          · cases h0; rfl
          · cases h0
        · split at h0
          · cases h0; rfl
          · cases h0
        · cases h0
    · cases hp
  | _ => exact ⟨_, os, rfl, hp, rfl⟩
theorem ev_sto {α : Type} [Inhabited α] {f : α → SV} {l : List α} {a : α} {T : Tab} {os os1 os2 : List SO} {t j sz es i off m : Nat} {b : Bool} {y : SV} {ys : List SV} {F : Nat → SV → List SO → Out} {Q}
    (hti : (T.ti t).map (·.size) = some sz) (hsz : Nat.blt 0 sz = true) (hy : Nat.beq y.cells.length sz = true) (hp : pureCells y.cells os = some (ys, os1)) (hj1 : os1[j]? = some (.arr b es (l.map f)))
    (hd : (dcells (f (nth l i))).map List.length = some m) (hm : Nat.ble (off + sz) m = true) (hys : setElem (f (nth l i)) off ys = f a) (hi : i < l.length)
    (hn : nf (some (.undef, os1.set j (.arr b es ((l.set i a).map f)))) = some (.undef, os2)) (h2 : Ev (fun n => F n .undef os2) Q) :
    Ev (fun n => bd (storeO T os t (.ap j i off) (some y)) (F n)) Q := by
  obtain ⟨q, hq, hqs⟩ := Option.map_eq_some_iff.1 hti
  obtain ⟨yc, hyc, hyl⟩ := Option.map_eq_some_iff.1 hd
  have hsz' : 0 < sz := by simpa using hsz
  have hy' : y.cells.length = sz := Nat.eq_of_beq_eq_true hy
  have hm' : off + sz ≤ m := by simpa using hm
  refine ev_bdx (x := .undef) (os := os1.set j (.arr b es ((l.set i a).map f))) ?_ ?_
  · have hg : (l.map f)[i]? = some (f (nth l i)) := by
      rw [List.getElem?_map, get_nth hi]; rfl
    have h1 : (l.map f).set i (f a) = (l.set i a).map f := by rw [List.map_set]
    obtain ⟨z, os0, hz1, hz2, hz3⟩ := deVw_pure hp
    simp only [storeO, evN, hz1, storeS, hq, hqs, hz3.trans hy', if_true, hz2, hj1, hg, hyc]
    rw [if_pos ⟨by rw [hyl]; exact hm', hsz'⟩, hys, h1]
  · rw [nf_eq] at hn
    obtain ⟨-, rfl⟩ := Prod.mk.inj (Option.some.inj hn)
    exact h2
theorem ld_el {α : Type} [Inhabited α] {f : α → SV} {l : List α} {T : Tab} {os : List SO} {t j es i off : Nat} {b : Bool} (hj : os[j]? = some (.arr b es (l.map f))) (hi : i < l.length) :
    loadS T os t (.ap j i off) = loadS T os t (.el (f (nth l i)) off) := by
  have hg : (l.map f)[i]? = some (f (nth l i)) := by
    rw [List.getElem?_map, get_nth hi]; rfl
  simp only [loadS, placeCells, hj, hg]
theorem ev_ldm {α : Type} [Inhabited α] {f : α → SV} {l : List α} {T : Tab} {os os' : List SO} {t j es i off : Nat} {b : Bool} {x : SV} {F : Nat → SV → List SO → Out} {Q} (hj : os[j]? = some (.arr b es (l.map f))) (hi : i < l.length)
    (h : nfB (ret1 (loadS T os t (.el (f (nth l i)) off)) os) = some (x, os')) (h2 : Ev (fun n => F n x os') Q) : Ev (fun n => bd (ret1 (loadS T os t (.ap j i off)) os) (F n)) Q := by
  rw [nfB_eq] at h
  refine ev_bdx (x := x) (os := os') ?_ h2
  rw [ld_el hj hi, h]
theorem ev_ldmB {α : Type} [Inhabited α] {f : α → SV} {l : List α} {T : Tab} {os os' : List SO} {t j es i off : Nat} {b c : Bool} {F : Nat → SV → List SO → Out} {Q} (hj : os[j]? = some (.arr b es (l.map f))) (hi : i < l.length)
    (h : nf (ret1 (loadS T os t (.el (f (nth l i)) off)) os) = some (.v (.bool c), os')) (h1 : c = true → Ev (fun n => F n (.v (.bool true)) os') Q) (h2 : c = false → Ev (fun n => F n (.v (.bool false)) os') Q) : Ev (fun n => bd (ret1 (loadS T os t (.ap j i off)) os) (F n)) Q := by
  rw [nf_eq] at h
  cases c
  · refine ev_bdx (x := .v (.bool false)) (os := os') ?_ (h2 rfl)
    rw [ld_el hj hi, h]
  · refine ev_bdx (x := .v (.bool true)) (os := os') ?_ (h1 rfl)
    rw [ld_el hj hi, h]
theorem ev_lenfm {α : Type} {T : Tab} {t : Nat} {sz j : Nat} {f : α → SV} {l : List α} {os : List SO} {F : Nat → SV → List SO → Out} {Q} (hj : os[j]? = some (.frz sz (l.map f))) (hu : (slSize T t).isSome = true) (h2 : Ev (fun n => F n (iI (l.length : Int)) os) Q) :
    Ev (fun n => bd (lenO T t os (.osl j)) (F n)) Q := by
  obtain ⟨s, hs⟩ := Option.isSome_iff_exists.1 hu
  obtain ⟨e, q, hu, -⟩ := slSize_spec hs
  refine ev_bdx (x := iI (l.length : Int)) (os := os) ?_ h2
  simp [lenO, lenS, hu, elems, hj]
theorem ev_idxn {α : Type} [Inhabited α] {T : Tab} {t : Nat} {enc : α → SV} {l : List α} {sz i : Nat} {os : List SO} {F : Nat → SV → List SO → Out} {Q}
    (hu : slSize T t = some sz) (h0 : i < l.length) (h2 : Ev (fun n => F n (.el (enc (nth l i)) 0) os) Q) :
    Ev (fun n => bd (ret1 (indexAddrS T os t (.sl sz (l.map enc)) (.v (.int .i64 (i : Int)))) os) (F n)) Q :=
  ev_idx hu ⟨by omega, by omega⟩ h2
theorem ev_idxon {T : Tab} {os : List SO} {t j sz : Nat} {b : Bool} {l : List SV} {i : Nat} {F : Nat → SV → List SO → Out} {Q} (hj : os[j]? = some (.arr b sz l)) (hu : slSize T t = some sz) (h0 : i < l.length) (h2 : Ev (fun n => F n (.ap j i 0) os) Q) :
    Ev (fun n => bd (ret1 (indexAddrS T os t (.osl j) (.v (.int .i64 (i : Int)))) os) (F n)) Q :=
  ev_idxo hj hu ⟨by omega, by omega⟩ h2
theorem ev_idxf {α : Type} [Inhabited α] {T : Tab} {t : Nat} {enc : α → SV} {l : List α} {sz j : Nat} {i : Int} {os : List SO} {F : Nat → SV → List SO → Out} {Q}
    (hj : os[j]? = some (.frz sz (l.map enc))) (hu : slSize T t = some sz) (h0 : 0 ≤ i ∧ i < (l.length : Int)) (h2 : Ev (fun n => F n (.el (enc (nth l i.toNat)) 0) os) Q) :
    Ev (fun n => bd (ret1 (indexAddrS T os t (.osl j) (.v (.int .i64 i))) os) (F n)) Q := by
  obtain ⟨e, q, hu, hq, hs⟩ := slSize_spec hu
  refine ev_bdx (x := .el (enc (nth l i.toNat)) 0) (os := os) ?_ h2
  have hg : (l.map enc)[i.toNat]? = some (enc (nth l i.toNat)) := by
    rw [List.getElem?_map, get_nth (by omega)]; rfl
  simp [indexAddrS, hu, hq, hs, hj, h0.1, elS, hg, ret1]
theorem ev_idxfn {α : Type} [Inhabited α] {T : Tab} {t : Nat} {enc : α → SV} {l : List α} {sz j i : Nat} {os : List SO} {F : Nat → SV → List SO → Out} {Q}
    (hj : os[j]? = some (.frz sz (l.map enc))) (hu : slSize T t = some sz) (h0 : i < l.length) (h2 : Ev (fun n => F n (.el (enc (nth l i)) 0) os) Q) :
    Ev (fun n => bd (ret1 (indexAddrS T os t (.osl j) (.v (.int .i64 (i : Int)))) os) (F n)) Q :=
  ev_idxf hj hu ⟨by omega, by omega⟩ h2
theorem ev_callee {c : Nat → Cx} {os : List SO} {f : Nat} {caps args : List SV} {F : Nat → SV → List SO → Out} {Q} (h : Ev (fun n => bd (callS (c n) os f (args ++ caps)) (F n)) Q) : Ev (fun n => bd (calleeS (c n) os (.fn f caps) args) (F n)) Q := h
theorem Ev.of {A : Nat → Out} {x os} {Q : SV → List SO → Prop} (h : Ex A x os) (hq : Q x os) : Ev A Q := ⟨x, os, hq, h⟩
end Go.Proofs.Ytikennabfbkdhaa

/- Packages, as data; drawn packages. -/
namespace Go.Proofs.Ytikennabfbkdhaa
open Go
set_option linter.unusedVariables false
set_option linter.unusedSimpArgs false
set_option maxHeartbeats 4000000
structure TFile where
  path : Int
  data : Int
  deriving Inhabited, DecidableEq
structure TDep where
  name : Int
  least : Int
  deriving Inhabited, DecidableEq
structure TPkg where
  name : Int
  ver : Int
  files : List TFile
  deps : List TDep
  deriving Inhabited, DecidableEq
abbrev eFile (f : TFile) : SV := .ag [iI f.path, iI f.data]
abbrev eDep (d : TDep) : SV := .ag [iI d.name, iI d.least]
abbrev ePkg (p : TPkg) : SV := .ag [iI p.name, iI p.ver, .sl 2 (p.files.map eFile), .sl 2 (p.deps.map eDep)]
abbrev rPkg (p : TPkg) (j k : Nat) : SV := .ag [iI p.name, iI p.ver, .osl j, .osl k]
abbrev oPkg (p : TPkg) : List SO := [.arr false 2 (p.files.map eFile), .arr false 2 (p.deps.map eDep)]
def depsIn (D : List TDep) : Prop := ∀ d, d ∈ D → 1 ≤ d.name ∧ d.name ≤ 4
def pless (a b : TPkg) : Prop := a.name < b.name ∨ a.name = b.name ∧ a.ver < b.ver
instance (a b : TPkg) : Decidable (pless a b) := by unfold pless; exact inferInstance
def withP (s : List TPkg) (p : TPkg) : List TPkg := (s.filter fun x => decide (pless x p)) ++ [p] ++ (s.filter fun x => decide (pless p x))
def small (x : TPkg) : Prop := x.files.length ≤ 10 ∧ x.deps.length ≤ 10
def smalls (s : List TPkg) : Prop := ∀ x, x ∈ s → small x
theorem smalls_nil : smalls [] := fun x h => by cases h
def tames (s : List TPkg) : Prop := ∀ x, x ∈ s → (1 ≤ x.name ∧ x.name ≤ 4) ∧ depsIn x.deps
end Go.Proofs.Ytikennabfbkdhaa

/- Packages: what is ok; their texts and sums; indexes of them (the reference's functions). -/
namespace Go.Proofs.Ytikennabfbkdhaa
open Go
set_option linter.unusedVariables false
set_option linter.unusedSimpArgs false
set_option maxHeartbeats 4000000
def fileAt (l : List TFile) (i : Nat) : Prop := (0 ≤ (nth l i).path ∧ (nth l i).path ≤ 5) ∧ (0 ≤ (nth l i).data ∧ (nth l i).data ≤ 9) ∧ (0 < i → (nth l (i - 1)).path < (nth l i).path)
instance (l : List TFile) (i : Nat) : Decidable (fileAt l i) := by unfold fileAt; exact inferInstance
def depAt (name : Int) (l : List TDep) (i : Nat) : Prop := (1 ≤ (nth l i).name ∧ (nth l i).name ≤ 4) ∧ (nth l i).name ≠ name ∧ (1 ≤ (nth l i).least ∧ (nth l i).least ≤ 5) ∧ (0 < i → (nth l (i - 1)).name < (nth l i).name)
instance (name : Int) (l : List TDep) (i : Nat) : Decidable (depAt name l i) := by unfold depAt; exact inferInstance
def filesAt (l : List TFile) : Bool := decide (∀ i, i < l.length → fileAt l i)
def depsAt (name : Int) (l : List TDep) : Bool := decide (∀ i, i < l.length → depAt name l i)
def filesOk (l : List TFile) : Bool := decide (l.length ≤ 2) && filesAt l
def depsOk (name : Int) (l : List TDep) : Bool := decide (l.length ≤ 2) && depsAt name l
def pkgOk (p : TPkg) : Bool := decide (1 ≤ p.name ∧ p.name ≤ 4) && decide (1 ≤ p.ver ∧ p.ver ≤ 5) && filesOk p.files && depsOk p.name p.deps
theorem pkgOk_iff {p : TPkg} : pkgOk p = true ↔ (1 ≤ p.name ∧ p.name ≤ 4) ∧ (1 ≤ p.ver ∧ p.ver ≤ 5) ∧ filesOk p.files = true ∧ depsOk p.name p.deps = true := by
  simp [pkgOk, and_assoc]
def bt (n : Int) : UInt8 := UInt8.ofNat n.toNat
def fileTx (f : TFile) : List UInt8 := [32, bt (48 + f.path), 58, bt (48 + f.data)]
def depTx (d : TDep) : List UInt8 := [32, bt (96 + d.name), bt (48 + d.least)]
def pkgTx (p : TPkg) : List UInt8 := [bt (96 + p.name), bt (48 + p.ver)] ++ p.files.flatMap fileTx ++ p.deps.flatMap depTx
def pkgText (p : TPkg) : List UInt8 := if pkgOk p = true then pkgTx p else []
def sumStep (s : Int) (b : UInt8) : Int := (31 * s + (b.toNat : Int) + 1) % 9973
def sumOf (l : List UInt8) : Int := l.foldl sumStep 7
def pkgAt (s : List TPkg) (i : Nat) : Prop := pkgOk (nth s i) = true ∧ (0 < i → pless (nth s (i - 1)) (nth s i))
instance (s : List TPkg) (i : Nat) : Decidable (pkgAt s i) := by unfold pkgAt; exact inferInstance
def storeOk (s : List TPkg) : Bool := decide (∀ i, i < s.length → pkgAt s i)
def PL (s : List TPkg) : Prop := ∀ i, (nth s i).files.length ≤ 2000000 ∧ (nth s i).deps.length ≤ 2000000
theorem PL_small {s : List TPkg} (h : smalls s) : PL s := by
  intro i
  by_cases hi : i < s.length
  · have hm : nth s i ∈ s := List.mem_of_getElem? (get_nth hi)
    have := h _ hm
    unfold small at this
    omega
  · have : nth s i = default := by
      unfold nth
      rw [List.getD_eq_getElem?_getD, List.getElem?_eq_none (by omega)]; rfl
    rw [this]
    exact ⟨by show ([] : List TFile).length ≤ _; simp, by show ([] : List TDep).length ≤ _; simp⟩
def metaOf (p : TPkg) : TMeta := ⟨p.name, p.ver, sumOf (pkgText p)⟩
def zIndex : TIndex := ⟨0, 0, []⟩
def indexOf (num til : Int) (s : List TPkg) : TIndex × Bool := if storeOk s = true ∧ indexOk num til (s.map metaOf) = true then (⟨num, til, s.map metaOf⟩, true) else (zIndex, false)
abbrev rIndex (x : TIndex) : SV := .ag [iI x.num, iI x.til, .osl 0]
end Go.Proofs.Ytikennabfbkdhaa
