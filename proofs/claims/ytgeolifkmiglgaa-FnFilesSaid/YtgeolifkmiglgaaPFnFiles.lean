/- The law FnFiles, in S: S says yes, whatever the bytes. -/
import Derived.Test.YtgeolifkmiglgaaV29
import Derived.Test.YtgeolifkmiglgaaTb
namespace Go.Proofs.Ytgeolifkmiglgaa
open Go
set_option linter.unusedVariables false
set_option linter.unusedSimpArgs false
set_option maxHeartbeats 40000000
set_option maxRecDepth 100000

def ShF (s : List TPkg) (w : List Int) (x : SV) (j : Nat) (os : List SO) : Prop := (x = .osl 0 ∧ j = 1 ∧ os = [.arr false 4 (s.map ePkg), .arr false 1 (w.map iI), .arr false 1 (w.map iI)]) ∨ (x = .sl 4 (s.map ePkg) ∧ j = 0 ∧ os = [.arr false 1 (w.map iI), .arr false 1 (w.map iI)])
theorem s_FnFiles_L19 (s : List TPkg) (w : List Int) (hw : w.length = 6) (n0 : Int) (hn0 : 0 ≤ n0) (hn : n0 + cntN w = 6) {x : SV} {j : Nat} {os : List SO} (hx : ShF s w x j os) : ∀ i, i ≤ w.length → ∀ (m k : Int) (c : Nat), k = i → m = cntN (w.take i) →
    Ev (fun n => L9_19 (callF prg n) (n + 1) 0 (n + 1 - c) (.osl j) (iI n0) (iI m) (iI k) os) QYes := by
  refine up_ind ?_
  intro i hi ih m k c hk hm
  subst hk
  have hst : i < w.length → cntN (w.take (i + 1)) = cntN (w.take i) + if nth w i = -1 then 1 else 0 := fun h => cntN_step h
  have hmi : cntN (w.take i) ≤ 6 := by
    unfold cntN
    have h1 := List.length_filter_le (fun x => decide (x = (-1 : Int))) (w.take i)
    have h2 := List.length_take_le i w
    have h3 : (w.take i).length ≤ 6 := by
      rw [List.length_take]; omega
    omega
  have hfin : ¬ i < w.length → m = cntN w := fun h => by rw [hm, List.take_of_length_le (by omega)]
  (refine UL9_19 ?_; unfold LB9_19)
  rcases hx with ⟨rfl, rfl, rfl⟩ | ⟨rfl, rfl, rfl⟩
  all_goals repeat' (first | ((with_reducible refine eG ?_); first | (with_reducible first | refine ev_gtt ?_ | refine ev_gff ?_ | refine ev_gtf ?_ | refine ev_gft ?_ | refine ev_gu ?_) | refine ev_bd rfl ?_ | refine ev_bd0 rfl ?_ | ((with_reducible refine ev_gB ?_ ?_) <;> intro h)) | ((with_reducible refine eB ?_); first | ((with_reducible first | refine ev_lss ?_ ?_ | refine ev_eql ?_ ?_) <;> intro h <;> try (exfalso; omega)) | ((with_reducible refine ev_add ?_ ?_); · omega) | refine ev_bd rfl ?_ | refine ev_bd0 rfl ?_) | ((with_reducible refine eL ?_); first | ((with_reducible refine ev_lenm ?_ ?_); · rfl) | refine ev_lenom rfl rfl ?_ | refine ev_lenfm rfl rfl ?_ | refine ev_lenoc rfl rfl rfl ?_ | refine ev_lenc rfl rfl ?_ | refine ev_leno rfl rfl ?_ | refine ev_slen rfl ?_ | refine ev_bd rfl ?_ | refine ev_bd0 rfl ?_) | ((with_reducible refine eI ?_); first | ((with_reducible refine ev_idxn ?_ ?_ ?_); (· rfl); · omega) | (refine ev_idxon rfl rfl ?_ ?_; (· first | omega | (simp only [List.length_cons, List.length_nil, List.length_map, List.length_append]; omega))) | (refine ev_idxfn rfl rfl ?_ ?_; (focus omega)) | ((with_reducible refine ev_idx ?_ ?_ ?_); (· rfl); · omega) | (refine ev_idxo rfl rfl ?_ ?_; (· first | omega | (simp only [List.length_cons, List.length_nil, List.length_map, List.length_append]; omega))) | (refine ev_idxf rfl rfl ?_ ?_; (focus omega)) | refine ev_bd rfl ?_ | refine ev_bd0 rfl ?_) | ((with_reducible refine eK ?_); first | (with_reducible first | refine ev_ct ?_ | refine ev_cf ?_) | ((with_reducible refine ev_cond ?_ ?_) <;> intro h)) | ((with_reducible refine eO ?_); first | refine ev_bd rfl ?_ | (refine ev_bdB rfl ?_ ?_ <;> intro h <;> try (exfalso; simp_all; done)) | refine ev_bd0 rfl ?_ | (refine ev_ldm rfl ?_ rfl ?_; (focus omega)) | (refine ev_ldmB rfl ?_ rfl ?_ ?_; (focus omega); (all_goals intro h))) | ((with_reducible refine eD ?_); first | refine ev_bd rfl ?_ | refine ev_bd0 rfl ?_ | ((with_reducible refine ev_pickB ?_ ?_) <;> intro h)) | ((with_reducible refine UJ9_20 ?_); (unfold JB9_20)) | ((with_reducible refine ih ?_ _ _ _ ?_ ?_) <;> (first | omega | assumption | ((rw [hst (by omega), hm]; simp [h])) | (simp only [*, List.map_append, List.length_append, List.length_cons, List.length_nil, List.map_cons, List.map_nil]; done) | (simp_all; done) | (simp_all; omega))) | refine ev_ret rfl ?_)
  all_goals first
    | rfl
    | (exfalso; have := hfin (by omega); omega)
    | trace_state
theorem s_FnFiles_L12 (s : List TPkg) (hs : s.length ≤ 9) (hsm : smalls s) (hok : planOk s = true) (m9 : Nat → Nat) (i : Nat) (hi : i < s.length) {x : SV} {j : Nat} {os : List SO} (hx : ShF s (filesP s) x j os)
    (hq : Ev (fun n => L9_9 (callF prg n) (n + 1) 0 (m9 n) x (.osl j) (iI ((s.take (i + 1)).flatMap (·.files)).length) (iI ((i : Int) + 1)) os) QYes) : ∀ q, q ≤ (nth s i).files.length → ∀ (n0 k : Int) (c : Nat), n0 = ((s.take i).flatMap (·.files)).length + q → k = q →
    Ev (fun n => L9_12 (callF prg n) (n + 1) 0 (m9 n) (n + 1 - c) x (.osl j) (iI n0) (iI i) (iI k) os) QYes := by
  have hfl := filesP_len s
  have hcnt := files_cnt hok
  have hle : ((s.take i).flatMap (·.files)).length ≤ (s.flatMap (·.files)).length := by
    have h1 : s.flatMap (·.files) = (s.take i).flatMap (·.files) ++ (s.drop i).flatMap (·.files) := by rw [← List.flatMap_append, List.take_append_drop]
    rw [h1, List.length_append]; omega
  have hsi := hsm _ (nth_mem hi)
  unfold small at hsi
  have hat := fun q (h : q < (nth s i).files.length) => files_at hok (nth_mem hi) (nth_mem h)
  have hpt := plan_paths hok i hi
  refine up_ind ?_
  intro q hq2 ih n0 k c hn hk
  subst hk
  have hatq := hat q
  have hptq := hpt q
  have hqe : q = (nth s i).files.length → Ev (fun n => L9_9 (callF prg n) (n + 1) 0 (m9 n) x (.osl j) (iI n0) (iI ((i : Int) + 1)) os) QYes := fun e => by
    rw [hn, e, ← Int.natCast_add, ← flat_take_len hi]; exact hq
  (refine UL9_12 ?_; unfold LB9_12)
  rcases hx with ⟨rfl, rfl, rfl⟩ | ⟨rfl, rfl, rfl⟩
  all_goals repeat' (first | ((with_reducible refine eB ?_); first | ((with_reducible first | refine ev_lss ?_ ?_ | refine ev_neq ?_ ?_) <;> intro h <;> try (exfalso; omega)) | ((with_reducible refine ev_add ?_ ?_); · omega) | refine ev_bd rfl ?_ | refine ev_bd0 rfl ?_) | ((with_reducible refine eL ?_); first | ((with_reducible refine ev_lenm ?_ ?_); · rfl) | refine ev_lenom rfl rfl ?_ | refine ev_lenfm rfl rfl ?_ | refine ev_lenoc rfl rfl rfl ?_ | refine ev_lenc rfl rfl ?_ | refine ev_leno rfl rfl ?_ | refine ev_slen rfl ?_ | refine ev_bd rfl ?_ | refine ev_bd0 rfl ?_) | ((with_reducible refine eI ?_); first | ((with_reducible refine ev_idxn ?_ ?_ ?_); (· rfl); · omega) | (refine ev_idxon rfl rfl ?_ ?_; (· first | omega | (simp only [List.length_cons, List.length_nil, List.length_map, List.length_append]; omega))) | (refine ev_idxfn rfl rfl ?_ ?_; (focus omega)) | ((with_reducible refine ev_idx ?_ ?_ ?_); (· rfl); · omega) | (refine ev_idxo rfl rfl ?_ ?_; (· first | omega | (simp only [List.length_cons, List.length_nil, List.length_map, List.length_append]; omega))) | (refine ev_idxf rfl rfl ?_ ?_; (focus omega)) | refine ev_bd rfl ?_ | refine ev_bd0 rfl ?_) | ((with_reducible refine eK ?_); first | (with_reducible first | refine ev_ct ?_ | refine ev_cf ?_) | ((with_reducible refine ev_cond ?_ ?_) <;> intro h)) | ((with_reducible refine eO ?_); first | refine ev_bd rfl ?_ | (refine ev_bdB rfl ?_ ?_ <;> intro h <;> try (exfalso; simp_all; done)) | refine ev_bd0 rfl ?_ | (refine ev_ldm rfl ?_ rfl ?_; (focus omega)) | (refine ev_ldmB rfl ?_ rfl ?_ ?_; (focus omega); (all_goals intro h))) | ((with_reducible refine eD ?_); first | refine ev_bd rfl ?_ | refine ev_bd0 rfl ?_) | ((with_reducible refine ih ?_ _ _ _ ?_ ?_) <;> (first | omega | assumption | (simp only [*, List.map_append, List.length_append, List.length_cons, List.length_nil, List.map_cons, List.map_nil]; done) | (simp_all; done) | (simp_all; omega))) | ( exact hqe (by omega)) | refine ev_ret rfl ?_)
  all_goals first
    | exact absurd (hatq (by omega)) h
    | trace_state
theorem s_FnFiles_L9 (s : List TPkg) (hs : s.length ≤ 9) (hsm : smalls s) (hok : planOk s = true) {x : SV} {j : Nat} {os : List SO} (hx : ShF s (filesP s) x j os) : ∀ i, i ≤ s.length → ∀ (n0 k : Int) (c : Nat), n0 = ((s.take i).flatMap (·.files)).length → k = i →
    Ev (fun n => L9_9 (callF prg n) (n + 1) 0 (n + 1 - c) x (.osl j) (iI n0) (iI k) os) QYes := by
  have hcnt := files_cnt hok
  refine up_ind ?_
  intro i hi ih n0 k c hn hk
  subst hk
  by_cases hi2 : i < s.length
  · (refine UL9_9 ?_; unfold LB9_9)
    have hin := s_FnFiles_L12 s hs hsm hok (fun n => n + 1 - (c + 1)) i hi2 hx (ih hi2 _ _ _ rfl rfl) 0 (by omega) n0 0 0 (by omega) rfl
    rcases hx with ⟨rfl, rfl, rfl⟩ | ⟨rfl, rfl, rfl⟩
    all_goals repeat' (first | ((with_reducible refine eB ?_); first | ((with_reducible refine ev_lss ?_ ?_) <;> intro h <;> try (exfalso; omega)) | refine ev_bd rfl ?_ | refine ev_bd0 rfl ?_) | ((with_reducible refine eL ?_); first | ((with_reducible refine ev_lenm ?_ ?_); · rfl) | refine ev_lenom rfl rfl ?_ | refine ev_lenfm rfl rfl ?_ | refine ev_lenoc rfl rfl rfl ?_ | refine ev_lenc rfl rfl ?_ | refine ev_leno rfl rfl ?_ | refine ev_slen rfl ?_ | refine ev_bd rfl ?_ | refine ev_bd0 rfl ?_) | ((with_reducible refine eK ?_); first | (with_reducible first | refine ev_ct ?_ | refine ev_cf ?_) | ((with_reducible refine ev_cond ?_ ?_) <;> intro h)) | ((with_reducible refine eD ?_); first | refine ev_bd rfl ?_ | refine ev_bd0 rfl ?_) | ( exact hin) | refine ev_ret rfl ?_)
  · have hn' : n0 + cntN (filesP s) = 6 := by rw [hn, List.take_of_length_le (by omega)]; omega
    have hin := s_FnFiles_L19 s (filesP s) (filesP_len s) n0 (by omega) hn' hx 0 (by omega) 0 0 0 rfl rfl
    (refine UL9_9 ?_; unfold LB9_9)
    rcases hx with ⟨rfl, rfl, rfl⟩ | ⟨rfl, rfl, rfl⟩
    all_goals repeat' (first | ((with_reducible refine eB ?_); first | ((with_reducible refine ev_lss ?_ ?_) <;> intro h <;> try (exfalso; omega)) | refine ev_bd rfl ?_ | refine ev_bd0 rfl ?_) | ((with_reducible refine eL ?_); first | ((with_reducible refine ev_lenm ?_ ?_); · rfl) | refine ev_lenom rfl rfl ?_ | refine ev_lenfm rfl rfl ?_ | refine ev_lenoc rfl rfl rfl ?_ | refine ev_lenc rfl rfl ?_ | refine ev_leno rfl rfl ?_ | refine ev_slen rfl ?_ | refine ev_bd rfl ?_ | refine ev_bd0 rfl ?_) | ((with_reducible refine eK ?_); first | (with_reducible first | refine ev_ct ?_ | refine ev_cf ?_) | ((with_reducible refine ev_cond ?_ ?_) <;> intro h)) | ((with_reducible refine eD ?_); first | refine ev_bd rfl ?_ | refine ev_bd0 rfl ?_) | ( exact hin) | refine ev_ret rfl ?_)

theorem pureFnFiles : ∀ l : List Int, l.length ≤ 140737488351232 → (∀ x ∈ l, (Lit.int .u8 x).wf = true) → ∃ n los, callF prg n 9 [.sl 1 (l.map bI)] [] = some (.v (.bool true), los) := by
  intro l hlen hw
  refine ev_true ?_
  (refine U9 (nl := 0) rfl ?_; unfold B9)
  repeat' (first | ((with_reducible refine eG ?_); first | (with_reducible first | refine ev_gtt ?_ | refine ev_gff ?_ | refine ev_gtf ?_ | refine ev_gft ?_ | refine ev_gu ?_) | refine ev_bd rfl ?_ | refine ev_bd0 rfl ?_ | ((with_reducible refine ev_gB ?_ ?_) <;> intro h)) | ((with_reducible refine eB ?_); first | ((with_reducible refine ev_gtr ?_ ?_) <;> intro h <;> try (exfalso; omega)) | refine ev_bd rfl ?_ | refine ev_bd0 rfl ?_) | ((with_reducible refine eL ?_); first | ((with_reducible refine ev_lenm ?_ ?_); · rfl) | refine ev_lenom rfl rfl ?_ | refine ev_lenfm rfl rfl ?_ | refine ev_lenoc rfl rfl rfl ?_ | refine ev_lenc rfl rfl ?_ | refine ev_leno rfl rfl ?_ | refine ev_slen rfl ?_ | refine ev_bd rfl ?_ | refine ev_bd0 rfl ?_) | ((with_reducible refine eC ?_); first | ((refine ev_callE (s_DrawPlanFiles l (bytes_of hw)) rfl rfl ?_); ((rintro _ _ ⟨s, ⟨rfl, rfl⟩ | ⟨rfl, rfl⟩, hs, hsm⟩) <;> (((have hp0 := PL_small hsm); (have hfl : (planFiles s).length ≤ 140737488355328 := by unfold planFiles; split; rw [filesP_len]; omega; simp))) <;> (first | (refine ev_post ?_ rfl ?_; (focus first | exact .inl rfl | exact .inr rfl | (refine .inr ?_; simp [flagC, ownF, hasSl3, hasSl1, SO.hasSl, List.all_map, flatSV, SV.cells, Function.comp_def]; done))) | (refine ev_postF ?_ rfl ?_; (focus first | rfl | (simp [flagC, ownF, hasSl3, hasSl1, SO.hasSl, List.all_map, flatSV, SV.cells, Function.comp_def]; done)))))) | ((refine ev_call (s_PlanFilesS s (by omega) hp0) rfl rfl ?_ rfl ?_); (focus first | exact .inl rfl | exact .inr rfl | (refine .inr ?_; simp [flagC, ownF, hasSl3, hasSl1, SO.hasSl, List.all_map, flatSV, SV.cells, Function.comp_def]; done))) | ((refine ev_call (s_PlanFilesI s (by omega) hp0) rfl rfl ?_ rfl ?_); (focus first | exact .inl rfl | exact .inr rfl | (refine .inr ?_; simp [flagC, ownF, hasSl3, hasSl1, SO.hasSl, List.all_map, flatSV, SV.cells, Function.comp_def]; done))) | ((refine ev_callB (s_PlanOkS s (by omega) hp0) rfl rfl ?_ rfl rfl ?_ ?_); (focus first | exact .inl rfl | exact .inr rfl | (refine .inr ?_; simp [flagC, ownF, hasSl3, hasSl1, SO.hasSl, List.all_map, flatSV, SV.cells, Function.comp_def]; done)); (all_goals (intro h)); (all_goals (try (exfalso; simp_all; done)))) | ((refine ev_callD (s_luInts (planFiles s) (planFiles s) hfl) rfl rfl ?_ rfl rfl ?_ ?_); (focus first | exact .inl rfl | exact .inr rfl | (refine .inr ?_; simp [flagC, ownF, hasSl3, hasSl1, SO.hasSl, List.all_map, flatSV, SV.cells, Function.comp_def]; done)); (all_goals (intro h)); (all_goals (try (exfalso; first | omega | exact h rfl | exact h ⟨rfl, rfl, rfl⟩))))) | ((with_reducible refine eK ?_); first | (with_reducible first | refine ev_ct ?_ | refine ev_cf ?_) | ((with_reducible refine ev_cond ?_ ?_) <;> intro h)) | ((with_reducible refine eD ?_); first | refine ev_bd rfl ?_ | refine ev_bd0 rfl ?_ | ((with_reducible refine ev_pickB ?_ ?_) <;> intro h)) | ( ((have e9 : planFiles s = filesP s := if_pos (by assumption)); (rw [e9]); exact s_FnFiles_L9 s hs hsm (by assumption) (by first | exact .inl ⟨rfl, rfl, rfl⟩ | exact .inr ⟨rfl, rfl, rfl⟩) 0 (by omega) 0 0 0 rfl rfl)) | refine ev_ret rfl ?_)
  all_goals first
    | rfl
    | (exfalso; simp_all; done)
    | trace_state

end Go.Proofs.Ytgeolifkmiglgaa
