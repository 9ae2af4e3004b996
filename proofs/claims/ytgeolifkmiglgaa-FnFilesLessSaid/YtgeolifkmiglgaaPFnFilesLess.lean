/- The law FnFilesLess, in S: S says yes, whatever the bytes. -/
import Derived.Test.YtgeolifkmiglgaaV29
import Derived.Test.YtgeolifkmiglgaaTb
namespace Go.Proofs.Ytgeolifkmiglgaa
open Go
set_option linter.unusedVariables false
set_option linter.unusedSimpArgs false
set_option maxHeartbeats 40000000
set_option maxRecDepth 100000

theorem files_back {s : List TPkg} (h : planOk s = true) {k : Nat} (hk : k < s.length) (hl : planOk (s.eraseIdx k) = true) :
    putF (filesP (s.eraseIdx k)) (nth s k).files = filesP s ∧ ∀ j, j < (nth s k).files.length → nth (putF (filesP (s.eraseIdx k)) ((nth s k).files.take j)) (nth (nth s k).files j).path.toNat = -1 := by
  obtain ⟨h1, h2, h3, h4⟩ := plan_iff.1 h
  have hmem : nth s k ∈ s := nth_mem hk
  have hF : FOk (nth s k).files := by
    refine ⟨fun f hf => (plan_FOk h).rng f (mem_flat.2 ⟨_, hmem, hf⟩), files_one (h1 _ hmem)⟩
  have hsub : ∀ p, p ∈ s.eraseIdx k → p ∈ s := fun p hp => (List.eraseIdx_sublist ..).subset hp
  have hap := pw_nth.1 h4
  have hno : ∀ p, p ∈ s.eraseIdx k → ∀ f, f ∈ p.files → ∀ g, g ∈ (nth s k).files → f.path ≠ g.path := fun p hp f hf g hg => by
    obtain ⟨i, hi, hik, rfl⟩ := mem_erase.1 hp
    by_cases e : i < k
    · exact fun e2 => hap i k e hk f hf g hg e2.symm
    · exact hap k i (by omega) hi g hg f hf
  have hl0 : (filesP (s.eraseIdx k)).length = 6 := filesP_len _
  constructor
  · refine eq_of_nth (by rw [putF_len, filesP_len, filesP_len]) fun x hx => ?_
    rw [putF_len, hl0] at hx
    by_cases e : ∃ f, f ∈ (nth s k).files ∧ f.path = x
    · obtain ⟨f, hf, e⟩ := e
      have a1 := putF_this hl0 hF hf
      have a2 := files_at h hmem hf
      rw [e] at a1 a2
      rw [show (x : Int).toNat = x from rfl] at a1 a2
      rw [a1, a2]
    · have e' : ∀ f, f ∈ (nth s k).files → f.path ≠ x := fun f hf e2 => e ⟨f, hf, e2⟩
      rw [putF_other hF e']
      rcases files_what hl hx with ⟨p, hp, f, hf, e2, e3⟩ | ⟨e2, e3⟩
      · have a2 := files_at h (hsub p hp) hf
        rw [e2, show (x : Int).toNat = x from rfl] at a2
        rw [e3, a2]
      · rw [e3, files_none h hx]
        intro p hp f hf e4
        obtain ⟨i, hi, rfl⟩ := mem_nth hp
        by_cases ei : i = k
        · subst ei; exact e' f hf e4
        · exact e2 _ (mem_erase.2 ⟨i, hi, ei, rfl⟩) f hf e4
  · intro j hj
    have hjm := nth_mem hj
    have hr := hF.rng _ hjm
    have hFt : FOk ((nth s k).files.take j) := ⟨fun f hf => hF.rng f (List.mem_of_mem_take hf), hF.one.sublist (List.take_sublist ..)⟩
    rw [putF_other hFt]
    · refine files_none hl (by omega) fun p hp f hf e => hno p hp f hf _ hjm (by omega)
    · intro f hf e
      obtain ⟨i, hi, rfl⟩ := mem_nth hf
      rw [List.length_take] at hi
      have h5 : nth ((nth s k).files.take j) i = nth (nth s k).files i := by
        unfold nth; simp only [List.getD_eq_getElem?_getD, List.getElem?_take]; rw [if_pos (by omega)]
      have := pw_nth.1 hF.one i j (by omega) hj
      rw [h5] at e; omega
theorem s_FnFilesLess_L13a (s : List TPkg) (hs : s.length ≤ 9) (hsm : smalls s) (hok : planOk s = true) (k : Nat) (hk : k < s.length) (hl : planOk (s.eraseIdx k) = true) (L : List SV) : ∀ i, i ≤ (nth s k).files.length → ∀ (w : List Int) (q : Int) (c : Nat), q = i → w = putF (filesP (s.eraseIdx k)) ((nth s k).files.take i) →
    Ev (fun n => L10_13 (callF prg n) (n + 1) 0 (n + 1 - c) (.osl 0) (.osl 1) (iI k) (.osl 6) (iI q) [.arr false 4 (s.map ePkg), .arr false 1 ((filesP s).map iI), .arr false 1 ((filesP s).map iI), .dead, .dead, .arr false 4 L, .arr false 1 (w.map iI)]) (Is (bB true) []) := by
  obtain ⟨hb1, hb2⟩ := files_back hok hk hl
  have hpt := plan_paths hok k hk
  have hsk := hsm _ (nth_mem hk)
  unfold small at hsk
  have hfl := filesP_len s
  refine up_ind ?_
  intro i hi ih w q c hq hw
  subst hq
  have hb2i := hb2 i
  have hpti := hpt i
  have hwl : w.length = 6 := by rw [hw, putF_len, filesP_len]
  rw [← hw] at hb2i
  have hfin : i = (nth s k).files.length → w = filesP s := fun e => by rw [hw, e, List.take_length, hb1]
  (refine UL10_13 ?_; unfold LB10_13)
  repeat' (first | ((with_reducible refine eB ?_); first | ((with_reducible first | refine ev_lss ?_ ?_ | refine ev_neq ?_ ?_) <;> intro h <;> try (exfalso; omega)) | ((with_reducible refine ev_add ?_ ?_); · omega) | refine ev_bd rfl ?_ | refine ev_bd0 rfl ?_) | ((with_reducible refine eL ?_); first | ((with_reducible refine ev_lenm ?_ ?_); · rfl) | refine ev_lenom rfl rfl ?_ | refine ev_lenfm rfl rfl ?_ | refine ev_lenoc rfl rfl rfl ?_ | refine ev_lenc rfl rfl ?_ | refine ev_leno rfl rfl ?_ | refine ev_slen rfl ?_ | refine ev_bd rfl ?_ | refine ev_bd0 rfl ?_) | ((with_reducible refine eI ?_); first | ((with_reducible refine ev_idxn ?_ ?_ ?_); (· rfl); · omega) | (refine ev_idxon rfl rfl ?_ ?_; (· first | omega | (simp only [List.length_cons, List.length_nil, List.length_map, List.length_append]; omega))) | (refine ev_idxfn rfl rfl ?_ ?_; (focus omega)) | ((with_reducible refine ev_idx ?_ ?_ ?_); (· rfl); · omega) | (refine ev_idxo rfl rfl ?_ ?_; (· first | omega | (simp only [List.length_cons, List.length_nil, List.length_map, List.length_append]; omega))) | (refine ev_idxf rfl rfl ?_ ?_; (focus omega)) | refine ev_bd rfl ?_ | refine ev_bd0 rfl ?_) | ((with_reducible refine eC ?_); first | ((refine ev_callD (s_luInts w (filesP s) (by omega)) rfl rfl ?_ rfl rfl ?_ ?_); (focus first | exact .inl rfl | exact .inr rfl | (refine .inr ?_; simp [flagC, ownF, hasSl3, hasSl1, SO.hasSl, List.all_map, flatSV, SV.cells, Function.comp_def]; done)); (all_goals (intro h)); (all_goals (try (exfalso; first | omega | exact h rfl | exact h ⟨rfl, rfl, rfl⟩))))) | ((with_reducible refine eK ?_); first | (with_reducible first | refine ev_ct ?_ | refine ev_cf ?_) | ((with_reducible refine ev_cond ?_ ?_) <;> intro h)) | ((with_reducible refine eO ?_); first | refine ev_bd rfl ?_ | (refine ev_bdB rfl ?_ ?_ <;> intro h <;> try (exfalso; simp_all; done)) | refine ev_bd0 rfl ?_ | (refine ev_ldm rfl ?_ rfl ?_; (focus omega)) | (refine ev_ldmB rfl ?_ rfl ?_ ?_; (focus omega); (all_goals intro h))) | ((with_reducible refine eD ?_); first | refine ev_bd rfl ?_ | refine ev_bd0 rfl ?_ | ( (refine ev_sto (f := iI) (a := (nth (nth s k).files i).data) rfl rfl rfl rfl rfl rfl rfl rfl ?_ rfl ?_; (focus omega)))) | ((with_reducible refine ih ?_ _ _ _ ?_ ?_) <;> (first | omega | assumption | ((rw [putF_step (by omega), ← hw])) | (simp only [*, List.map_append, List.length_append, List.length_cons, List.length_nil, List.map_cons, List.map_nil]; done) | (simp_all; done) | (simp_all; omega))) | refine ev_ret rfl ?_)
  all_goals first
    | exact ⟨rfl, rfl⟩
    | exact absurd (hb2i (by omega)) h
    | exact absurd (hfin (by omega)) h
    | trace_state
theorem s_FnFilesLess_J9a (s : List TPkg) (hs : s.length ≤ 9) (hsm : smalls s) (hok : planOk s = true) (k : Nat) (hk : k < s.length) (L : List SV) (hL : L = (s.eraseIdx k).map ePkg) :
    Ev (fun n => J10_9 (callF prg n) (n + 1) 0 (.osl 0) (.osl 1) (iI k) (.osl 5) [.arr false 4 (s.map ePkg), .arr false 1 ((filesP s).map iI), .arr false 1 ((filesP s).map iI), .dead, .dead, .arr false 4 L]) (Is (bB true) []) := by
  have hle : (s.eraseIdx k).length ≤ 9 := by rw [List.length_eraseIdx]; split <;> omega
  have hpe : PL (s.eraseIdx k) := PL_small fun p hp => hsm p ((List.eraseIdx_sublist ..).subset hp)
  subst hL
  (refine UJ10_9 ?_; unfold JB10_9)
  repeat' (first | ((with_reducible refine eC ?_); first | ((refine ev_callB (s_PlanOkI (s.eraseIdx k) (by omega) hpe) rfl rfl ?_ rfl rfl ?_ ?_); (focus first | exact .inl rfl | exact .inr rfl | (refine .inr ?_; simp [flagC, ownF, hasSl3, hasSl1, SO.hasSl, List.all_map, flatSV, SV.cells, Function.comp_def]; done)); (all_goals (intro h)); (all_goals (try (exfalso; simp_all; done)))) | ((refine ev_call (s_PlanFilesI (s.eraseIdx k) (by omega) hpe) rfl rfl ?_ rfl ?_); (focus first | exact .inl rfl | exact .inr rfl | (refine .inr ?_; simp [flagC, ownF, hasSl3, hasSl1, SO.hasSl, List.all_map, flatSV, SV.cells, Function.comp_def]; done)))) | ((with_reducible refine eK ?_); first | (with_reducible first | refine ev_ct ?_ | refine ev_cf ?_) | ((with_reducible refine ev_cond ?_ ?_) <;> intro h)) | ((with_reducible refine eD ?_); first | refine ev_bd rfl ?_ | refine ev_bd0 rfl ?_) | ( ((have e9 : planFiles (s.eraseIdx k) = filesP (s.eraseIdx k) := if_pos (by assumption)); (rw [e9]); exact s_FnFilesLess_L13a s hs hsm hok k hk (by assumption) _ 0 (by omega) _ 0 0 rfl rfl)) | refine ev_ret rfl ?_)
  all_goals exact ⟨rfl, rfl⟩
theorem s_FnFilesLess_L13b (s : List TPkg) (hs : s.length ≤ 9) (hsm : smalls s) (hok : planOk s = true) (k : Nat) (hk : k < s.length) (hl : planOk (s.eraseIdx k) = true) (L : List SV) : ∀ i, i ≤ (nth s k).files.length → ∀ (w : List Int) (q : Int) (c : Nat), q = i → w = putF (filesP (s.eraseIdx k)) ((nth s k).files.take i) →
    Ev (fun n => L10_13 (callF prg n) (n + 1) 0 (n + 1 - c) (.sl 4 (s.map ePkg)) (.osl 0) (iI k) (.osl 5) (iI q) [.arr false 1 ((filesP s).map iI), .arr false 1 ((filesP s).map iI), .dead, .dead, .arr false 4 L, .arr false 1 (w.map iI)]) (Is (bB true) []) := by
  obtain ⟨hb1, hb2⟩ := files_back hok hk hl
  have hpt := plan_paths hok k hk
  have hsk := hsm _ (nth_mem hk)
  unfold small at hsk
  have hfl := filesP_len s
  refine up_ind ?_
  intro i hi ih w q c hq hw
  subst hq
  have hb2i := hb2 i
  have hpti := hpt i
  have hwl : w.length = 6 := by rw [hw, putF_len, filesP_len]
  rw [← hw] at hb2i
  have hfin : i = (nth s k).files.length → w = filesP s := fun e => by rw [hw, e, List.take_length, hb1]
  (refine UL10_13 ?_; unfold LB10_13)
  repeat' (first | ((with_reducible refine eB ?_); first | ((with_reducible first | refine ev_lss ?_ ?_ | refine ev_neq ?_ ?_) <;> intro h <;> try (exfalso; omega)) | ((with_reducible refine ev_add ?_ ?_); · omega) | refine ev_bd rfl ?_ | refine ev_bd0 rfl ?_) | ((with_reducible refine eL ?_); first | ((with_reducible refine ev_lenm ?_ ?_); · rfl) | refine ev_lenom rfl rfl ?_ | refine ev_lenfm rfl rfl ?_ | refine ev_lenoc rfl rfl rfl ?_ | refine ev_lenc rfl rfl ?_ | refine ev_leno rfl rfl ?_ | refine ev_slen rfl ?_ | refine ev_bd rfl ?_ | refine ev_bd0 rfl ?_) | ((with_reducible refine eI ?_); first | ((with_reducible refine ev_idxn ?_ ?_ ?_); (· rfl); · omega) | (refine ev_idxon rfl rfl ?_ ?_; (· first | omega | (simp only [List.length_cons, List.length_nil, List.length_map, List.length_append]; omega))) | (refine ev_idxfn rfl rfl ?_ ?_; (focus omega)) | ((with_reducible refine ev_idx ?_ ?_ ?_); (· rfl); · omega) | (refine ev_idxo rfl rfl ?_ ?_; (· first | omega | (simp only [List.length_cons, List.length_nil, List.length_map, List.length_append]; omega))) | (refine ev_idxf rfl rfl ?_ ?_; (focus omega)) | refine ev_bd rfl ?_ | refine ev_bd0 rfl ?_) | ((with_reducible refine eC ?_); first | ((refine ev_callD (s_luInts w (filesP s) (by omega)) rfl rfl ?_ rfl rfl ?_ ?_); (focus first | exact .inl rfl | exact .inr rfl | (refine .inr ?_; simp [flagC, ownF, hasSl3, hasSl1, SO.hasSl, List.all_map, flatSV, SV.cells, Function.comp_def]; done)); (all_goals (intro h)); (all_goals (try (exfalso; first | omega | exact h rfl | exact h ⟨rfl, rfl, rfl⟩))))) | ((with_reducible refine eK ?_); first | (with_reducible first | refine ev_ct ?_ | refine ev_cf ?_) | ((with_reducible refine ev_cond ?_ ?_) <;> intro h)) | ((with_reducible refine eO ?_); first | refine ev_bd rfl ?_ | (refine ev_bdB rfl ?_ ?_ <;> intro h <;> try (exfalso; simp_all; done)) | refine ev_bd0 rfl ?_ | (refine ev_ldm rfl ?_ rfl ?_; (focus omega)) | (refine ev_ldmB rfl ?_ rfl ?_ ?_; (focus omega); (all_goals intro h))) | ((with_reducible refine eD ?_); first | refine ev_bd rfl ?_ | refine ev_bd0 rfl ?_ | ( (refine ev_sto (f := iI) (a := (nth (nth s k).files i).data) rfl rfl rfl rfl rfl rfl rfl rfl ?_ rfl ?_; (focus omega)))) | ((with_reducible refine ih ?_ _ _ _ ?_ ?_) <;> (first | omega | assumption | ((rw [putF_step (by omega), ← hw])) | (simp only [*, List.map_append, List.length_append, List.length_cons, List.length_nil, List.map_cons, List.map_nil]; done) | (simp_all; done) | (simp_all; omega))) | refine ev_ret rfl ?_)
  all_goals first
    | exact ⟨rfl, rfl⟩
    | exact absurd (hb2i (by omega)) h
    | exact absurd (hfin (by omega)) h
    | trace_state
theorem s_FnFilesLess_J9b (s : List TPkg) (hs : s.length ≤ 9) (hsm : smalls s) (hok : planOk s = true) (k : Nat) (hk : k < s.length) (L : List SV) (hL : L = (s.eraseIdx k).map ePkg) :
    Ev (fun n => J10_9 (callF prg n) (n + 1) 0 (.sl 4 (s.map ePkg)) (.osl 0) (iI k) (.osl 4) [.arr false 1 ((filesP s).map iI), .arr false 1 ((filesP s).map iI), .dead, .dead, .arr false 4 L]) (Is (bB true) []) := by
  have hle : (s.eraseIdx k).length ≤ 9 := by rw [List.length_eraseIdx]; split <;> omega
  have hpe : PL (s.eraseIdx k) := PL_small fun p hp => hsm p ((List.eraseIdx_sublist ..).subset hp)
  subst hL
  (refine UJ10_9 ?_; unfold JB10_9)
  repeat' (first | ((with_reducible refine eC ?_); first | ((refine ev_callB (s_PlanOkI (s.eraseIdx k) (by omega) hpe) rfl rfl ?_ rfl rfl ?_ ?_); (focus first | exact .inl rfl | exact .inr rfl | (refine .inr ?_; simp [flagC, ownF, hasSl3, hasSl1, SO.hasSl, List.all_map, flatSV, SV.cells, Function.comp_def]; done)); (all_goals (intro h)); (all_goals (try (exfalso; simp_all; done)))) | ((refine ev_call (s_PlanFilesI (s.eraseIdx k) (by omega) hpe) rfl rfl ?_ rfl ?_); (focus first | exact .inl rfl | exact .inr rfl | (refine .inr ?_; simp [flagC, ownF, hasSl3, hasSl1, SO.hasSl, List.all_map, flatSV, SV.cells, Function.comp_def]; done)))) | ((with_reducible refine eK ?_); first | (with_reducible first | refine ev_ct ?_ | refine ev_cf ?_) | ((with_reducible refine ev_cond ?_ ?_) <;> intro h)) | ((with_reducible refine eD ?_); first | refine ev_bd rfl ?_ | refine ev_bd0 rfl ?_) | ( ((have e9 : planFiles (s.eraseIdx k) = filesP (s.eraseIdx k) := if_pos (by assumption)); (rw [e9]); exact s_FnFilesLess_L13b s hs hsm hok k hk (by assumption) _ 0 (by omega) _ 0 0 rfl rfl)) | refine ev_ret rfl ?_)
  all_goals exact ⟨rfl, rfl⟩
theorem pureFnFilesLess : ∀ l : List Int, l.length ≤ 140737488351232 → (∀ x ∈ l, (Lit.int .u8 x).wf = true) → ∀ m : List Int, m.length ≤ 140737488351232 → (∀ x ∈ m, (Lit.int .u8 x).wf = true) → ∃ n los, callF prg n 10 [.sl 1 (l.map bI), .sl 1 (m.map bI)] [] = some (.v (.bool true), los) := by
  intro l hlen hw m hlm hwm
  refine ev_true ?_
  (refine U10 (nl := 0) rfl ?_; unfold B10)
  repeat' (first | ((with_reducible refine eG ?_); first | (with_reducible first | refine ev_gtt ?_ | refine ev_gff ?_ | refine ev_gtf ?_ | refine ev_gft ?_ | refine ev_gu ?_) | refine ev_bd rfl ?_ | refine ev_bd0 rfl ?_ | ((with_reducible refine ev_gB ?_ ?_) <;> intro h)) | ((with_reducible refine eB ?_); first | ((with_reducible first | refine ev_gtr ?_ ?_ | refine ev_eql ?_ ?_) <;> intro h <;> try (exfalso; omega)) | ((with_reducible refine ev_add ?_ ?_); · omega) | ((with_reducible refine ev_rem ?_ ?_); (· omega); intro x hx hx0 hx1) | refine ev_bd rfl ?_ | refine ev_bd0 rfl ?_) | ((with_reducible refine eL ?_); first | ((with_reducible refine ev_lenm ?_ ?_); · rfl) | refine ev_lenom rfl rfl ?_ | refine ev_lenfm rfl rfl ?_ | refine ev_lenoc rfl rfl rfl ?_ | refine ev_lenc rfl rfl ?_ | refine ev_leno rfl rfl ?_ | refine ev_slen rfl ?_ | refine ev_bd rfl ?_ | refine ev_bd0 rfl ?_) | ((with_reducible refine eS ?_); first | ((with_reducible first | refine ev_slh ?_ ?_ ?_ | refine ev_sll ?_ ?_ ?_); (· rfl); · omega) | ((first | refine ev_slvh rfl rfl ?_ ?_ | refine ev_slvl rfl rfl ?_ ?_); (· first | omega | (simp only [List.length_cons, List.length_nil, List.length_map, List.length_append]; omega))) | refine ev_bd rfl ?_ | refine ev_bd0 rfl ?_) | ((with_reducible refine eC ?_); first | ((refine ev_callE (s_DrawPlanFiles l (bytes_of hw)) rfl rfl ?_); ((rintro _ _ ⟨s, ⟨rfl, rfl⟩ | ⟨rfl, rfl⟩, hs, hsm⟩) <;> (((have hp0 := PL_small hsm); (have hfl : (planFiles s).length ≤ 140737488355328 := by unfold planFiles; split; rw [filesP_len]; omega; simp))) <;> (first | (refine ev_post ?_ rfl ?_; (focus first | exact .inl rfl | exact .inr rfl | (refine .inr ?_; simp [flagC, ownF, hasSl3, hasSl1, SO.hasSl, List.all_map, flatSV, SV.cells, Function.comp_def]; done))) | (refine ev_postF ?_ rfl ?_; (focus first | rfl | (simp [flagC, ownF, hasSl3, hasSl1, SO.hasSl, List.all_map, flatSV, SV.cells, Function.comp_def]; done)))))) | ((refine ev_call (s_PlanFilesS s (by omega) hp0) rfl rfl ?_ rfl ?_); (focus first | exact .inl rfl | exact .inr rfl | (refine .inr ?_; simp [flagC, ownF, hasSl3, hasSl1, SO.hasSl, List.all_map, flatSV, SV.cells, Function.comp_def]; done))) | ((refine ev_call (s_PlanFilesI s (by omega) hp0) rfl rfl ?_ rfl ?_); (focus first | exact .inl rfl | exact .inr rfl | (refine .inr ?_; simp [flagC, ownF, hasSl3, hasSl1, SO.hasSl, List.all_map, flatSV, SV.cells, Function.comp_def]; done))) | ((refine ev_callB (s_PlanOkS s (by omega) hp0) rfl rfl ?_ rfl rfl ?_ ?_); (focus first | exact .inl rfl | exact .inr rfl | (refine .inr ?_; simp [flagC, ownF, hasSl3, hasSl1, SO.hasSl, List.all_map, flatSV, SV.cells, Function.comp_def]; done)); (all_goals (intro h)); (all_goals (try (exfalso; simp_all; done)))) | ((refine ev_callD (s_luInts (planFiles s) (planFiles s) hfl) rfl rfl ?_ rfl rfl ?_ ?_); (focus first | exact .inl rfl | exact .inr rfl | (refine .inr ?_; simp [flagC, ownF, hasSl3, hasSl1, SO.hasSl, List.all_map, flatSV, SV.cells, Function.comp_def]; done)); (all_goals (intro h)); (all_goals (try (exfalso; first | omega | exact h rfl | exact h ⟨rfl, rfl, rfl⟩))))) | ((with_reducible refine eA ?_); first | (refine ev_app rfl rfl rfl rfl rfl ?_ ?_; · first | decide | (simp only [List.length_append, List.length_cons, List.length_nil, List.length_map, List.length_take, List.length_drop]; omega)) | ( (refine ev_appv2 rfl rfl rfl rfl rfl ?_ ?_ ?_; (focus first | omega | (simp only [List.length_map]; omega)); (focus (simp only [List.length_append, List.length_map, List.length_drop, List.length_take, List.length_nil]; omega))))) | ((with_reducible refine eK ?_); first | (with_reducible first | refine ev_ct ?_ | refine ev_cf ?_) | ((with_reducible refine ev_cond ?_ ?_) <;> intro h)) | ((with_reducible refine eD ?_); first | refine ev_bd rfl ?_ | refine ev_bd0 rfl ?_ | ((with_reducible refine ev_pickB ?_ ?_) <;> intro h)) | ( ((obtain ⟨k, rfl⟩ : ∃ k : Nat, x = (k : Int) := ⟨x.toNat, by omega⟩); (have e9 : planFiles s = filesP s := if_pos (by assumption)); (rw [e9]))) | (with_reducible refine ev_bothI ?_ ?_) | (with_reducible refine ev_bothQ (qyes) ?_ ?_) | ( exact s_FnFilesLess_J9a s hs hsm (by assumption) k (by omega) _ (by simp [List.eraseIdx_eq_take_drop_succ, tn_add1])) | ( exact s_FnFilesLess_J9b s hs hsm (by assumption) k (by omega) _ (by simp [List.eraseIdx_eq_take_drop_succ, tn_add1])) | refine ev_ret rfl ?_)
  all_goals first
    | rfl
    | (exfalso; simp_all; done)
    | trace_state

end Go.Proofs.Ytgeolifkmiglgaa
