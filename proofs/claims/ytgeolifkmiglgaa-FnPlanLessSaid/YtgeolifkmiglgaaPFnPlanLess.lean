/- The law FnPlanLess, in S: S says yes, whatever the bytes. -/
import Derived.Test.YtgeolifkmiglgaaV27
import Derived.Test.YtgeolifkmiglgaaTb
namespace Go.Proofs.Ytgeolifkmiglgaa
open Go
set_option linter.unusedVariables false
set_option linter.unusedSimpArgs false
set_option maxHeartbeats 40000000
set_option maxRecDepth 100000

/-- What was found so far. -/
def needTo (s : List TPkg) (k i j : Nat) : Prop := (∃ i', i' < i ∧ i' ≠ k ∧ ∃ d, d ∈ (nth s i').deps ∧ d.name = (nth s k).name) ∨ (i ≠ k ∧ ∃ j', j' < j ∧ (nth (nth s i).deps j').name = (nth s k).name)
theorem need_step {s : List TPkg} {k i j : Nat} : needTo s k i (j + 1) ↔ needTo s k i j ∨ (i ≠ k ∧ (nth (nth s i).deps j).name = (nth s k).name) := by
  unfold needTo
  constructor
  · rintro (h | ⟨h, j', hj, e⟩)
    · exact .inl (.inl h)
    · by_cases ej : j' = j
      · subst ej; exact .inr ⟨h, e⟩
      · exact .inl (.inr ⟨h, j', by omega, e⟩)
  · rintro ((h | ⟨h, j', hj, e⟩) | ⟨h, e⟩)
    · exact .inl h
    · exact .inr ⟨h, j', by omega, e⟩
    · exact .inr ⟨h, j, by omega, e⟩
theorem need_end {s : List TPkg} {k i : Nat} : needTo s k (i + 1) 0 ↔ needTo s k i (nth s i).deps.length := by
  unfold needTo
  constructor
  · rintro (⟨i', h1, h2, d, hd, e⟩ | ⟨-, j', hj, -⟩)
    · by_cases ei : i' = i
      · subst ei
        obtain ⟨j, hj, rfl⟩ := mem_nth hd
        exact .inr ⟨h2, j, hj, e⟩
      · exact .inl ⟨i', by omega, h2, d, hd, e⟩
    · omega
  · rintro (⟨i', h1, h2, d, hd, e⟩ | ⟨h2, j', hj, e⟩)
    · exact .inl ⟨i', by omega, h2, d, hd, e⟩
    · exact .inl ⟨i, by omega, h2, _, nth_mem hj, e⟩
theorem need_all {s : List TPkg} {k : Nat} : needTo s k s.length 0 ↔ neededP s k := by
  unfold needTo neededP
  constructor
  · rintro (h | ⟨-, j', hj, -⟩)
    · exact h
    · omega
  · exact .inl

theorem s_FnPlanLess_L13 (s : List TPkg) (hs : s.length ≤ 9) (hp0 : PL s) (k : Nat) (hk : k < s.length) (m10 : Nat → Nat) (i : Nat) (hi : i < s.length) {x : SV} {os : List SO} (hx : Res4 0 s x os)
    (hq : ∀ a : Bool, (a = true ↔ needTo s k (i + 1) 0) → Ev (fun n => L6_10 (callF prg n) (n + 1) 0 (m10 n) x (iI k) (bB a) (iI ((i : Int) + 1)) os) QYes) : ∀ j, j ≤ (nth s i).deps.length → ∀ a : Bool, (a = true ↔ needTo s k i j) → ∀ (kk : Int) (c : Nat), kk = j →
    Ev (fun n => L6_13 (callF prg n) (n + 1) 0 (m10 n) (n + 1 - c) x (iI k) (bB a) (iI i) (iI kk) os) QYes := by
  have hpi := hp0 i
  refine up_ind ?_
  intro j hj ih a ha kk c hkk
  subst hkk
  have hst : ∀ b : Bool, (b = true ↔ a = true ∨ (i ≠ k ∧ (nth (nth s i).deps j).name = (nth s k).name)) → (b = true ↔ needTo s k i (j + 1)) := fun b hb => by
    rw [hb, ha, need_step]
  have hqe : j = (nth s i).deps.length → Ev (fun n => L6_10 (callF prg n) (n + 1) 0 (m10 n) x (iI k) (bB a) (iI ((i : Int) + 1)) os) QYes := fun e => hq a (by rw [ha, need_end, e])
  (refine UL6_13 ?_; unfold LB6_13)
  rcases hx with ⟨rfl, rfl⟩ | ⟨rfl, rfl⟩ <;> cases a
  all_goals repeat' (first | ((with_reducible refine eG ?_); first | (with_reducible first | refine ev_gtt ?_ | refine ev_gff ?_ | refine ev_gtf ?_ | refine ev_gft ?_ | refine ev_gu ?_) | refine ev_bd rfl ?_ | refine ev_bd0 rfl ?_ | ((with_reducible refine ev_gB ?_ ?_) <;> intro h)) | ((with_reducible refine eB ?_); first | ((with_reducible first | refine ev_lss ?_ ?_ | refine ev_eql ?_ ?_ | refine ev_neq ?_ ?_) <;> intro h <;> try (exfalso; omega)) | ((with_reducible refine ev_add ?_ ?_); · omega) | refine ev_bd rfl ?_ | refine ev_bd0 rfl ?_) | ((with_reducible refine eL ?_); first | ((with_reducible refine ev_lenm ?_ ?_); · rfl) | refine ev_lenom rfl rfl ?_ | refine ev_lenfm rfl rfl ?_ | refine ev_lenoc rfl rfl rfl ?_ | refine ev_lenc rfl rfl ?_ | refine ev_leno rfl rfl ?_ | refine ev_slen rfl ?_ | refine ev_bd rfl ?_ | refine ev_bd0 rfl ?_) | ((with_reducible refine eI ?_); first | ((with_reducible refine ev_idxn ?_ ?_ ?_); (· rfl); · omega) | (refine ev_idxon rfl rfl ?_ ?_; (· first | omega | (simp only [List.length_cons, List.length_nil, List.length_map, List.length_append]; omega))) | (refine ev_idxfn rfl rfl ?_ ?_; (focus omega)) | ((with_reducible refine ev_idx ?_ ?_ ?_); (· rfl); · omega) | (refine ev_idxo rfl rfl ?_ ?_; (· first | omega | (simp only [List.length_cons, List.length_nil, List.length_map, List.length_append]; omega))) | (refine ev_idxf rfl rfl ?_ ?_; (focus omega)) | refine ev_bd rfl ?_ | refine ev_bd0 rfl ?_) | ((with_reducible refine eK ?_); first | (with_reducible first | refine ev_ct ?_ | refine ev_cf ?_) | ((with_reducible refine ev_cond ?_ ?_) <;> intro h)) | ((with_reducible refine eO ?_); first | refine ev_bd rfl ?_ | (refine ev_bdB rfl ?_ ?_ <;> intro h <;> try (exfalso; simp_all; done)) | refine ev_bd0 rfl ?_ | (refine ev_ldm rfl ?_ rfl ?_; (focus omega)) | (refine ev_ldmB rfl ?_ rfl ?_ ?_; (focus omega); (all_goals intro h))) | ((with_reducible refine eD ?_); first | refine ev_bd rfl ?_ | refine ev_bd0 rfl ?_ | ((with_reducible refine ev_pickB ?_ ?_) <;> intro h)) | ((with_reducible refine ih ?_ _ (hst _ ?_) _ _ ?_) <;> (first | omega | assumption | ((first | exact ⟨fun _ => .inl rfl, fun _ => rfl⟩ | (refine ⟨fun _ => .inr ⟨?_, by assumption⟩, fun _ => rfl⟩; omega) | (refine ⟨fun e => by cases e, fun e => ?_⟩; rcases e with e | ⟨e1, e2⟩; cases e; omega))) | (simp only [*, List.map_append, List.length_append, List.length_cons, List.length_nil, List.map_cons, List.map_nil]; done) | (simp_all; done) | (simp_all; omega))) | ( exact hqe (by omega)) | refine ev_ret rfl ?_)
theorem s_FnPlanLess_L10 (s : List TPkg) (hs : s.length ≤ 9) (hsm : smalls s) (hok : planOk s = true) (k : Nat) (hk : k < s.length) {x : SV} {os : List SO} (hx : Res4 0 s x os) : ∀ i, i ≤ s.length → ∀ a : Bool, (a = true ↔ needTo s k i 0) → ∀ (kk : Int) (c : Nat), kk = i →
    Ev (fun n => L6_10 (callF prg n) (n + 1) 0 (n + 1 - c) x (iI k) (bB a) (iI kk) os) QYes := by
  have hp0 := PL_small hsm
  have hl : (s.eraseIdx k).length ≤ 9 := by rw [List.length_eraseIdx]; split <;> omega
  have hpe : PL (s.eraseIdx k) := PL_small fun p hp => hsm p ((List.eraseIdx_sublist ..).subset hp)
  have hP : ∀ L, L = (s.eraseIdx k).map ePkg → Ex (fun m => callF prg m 24 [.sl 4 L] []) (bB (planOk (s.eraseIdx k))) [] := fun L h => by
    rw [h]; exact s_PlanOkI _ (by omega) hpe
  refine up_ind ?_
  intro i hi ih a ha kk c hkk
  subst hkk
  have hless := plan_less hok hk
  have hend : i = s.length → (a = true ↔ neededP s k) := fun e => by rw [ha, e, need_all]
  by_cases hi2 : i < s.length
  · (refine UL6_10 ?_; unfold LB6_10)
    have hin := s_FnPlanLess_L13 s hs hp0 k hk (fun n => n + 1 - (c + 1)) i hi2 hx (fun b hb => ih hi2 b hb _ _ rfl) 0 (by omega) a ha 0 0 rfl
    rcases hx with ⟨rfl, rfl⟩ | ⟨rfl, rfl⟩
    all_goals repeat' (first | ((with_reducible refine eB ?_); first | ((with_reducible refine ev_lss ?_ ?_) <;> intro h <;> try (exfalso; omega)) | ((with_reducible refine ev_add ?_ ?_); · omega) | refine ev_bd rfl ?_ | refine ev_bd0 rfl ?_) | ((with_reducible refine eL ?_); first | ((with_reducible refine ev_lenm ?_ ?_); · rfl) | refine ev_lenom rfl rfl ?_ | refine ev_lenfm rfl rfl ?_ | refine ev_lenoc rfl rfl rfl ?_ | refine ev_lenc rfl rfl ?_ | refine ev_leno rfl rfl ?_ | refine ev_slen rfl ?_ | refine ev_bd rfl ?_ | refine ev_bd0 rfl ?_) | ((with_reducible refine eS ?_); first | ((with_reducible first | refine ev_slh ?_ ?_ ?_ | refine ev_sll ?_ ?_ ?_); (· rfl); · omega) | ((first | refine ev_slvh rfl rfl ?_ ?_ | refine ev_slvl rfl rfl ?_ ?_); (· first | omega | (simp only [List.length_cons, List.length_nil, List.length_map, List.length_append]; omega))) | refine ev_bd rfl ?_ | refine ev_bd0 rfl ?_) | ((with_reducible refine eA ?_); first | (refine ev_app rfl rfl rfl rfl rfl ?_ ?_; · first | decide | (simp only [List.length_append, List.length_cons, List.length_nil, List.length_map, List.length_take, List.length_drop]; omega))) | ((with_reducible refine eK ?_); first | (with_reducible first | refine ev_ct ?_ | refine ev_cf ?_) | ((with_reducible refine ev_cond ?_ ?_) <;> intro h)) | ((with_reducible refine eD ?_); first | refine ev_bd rfl ?_ | refine ev_bd0 rfl ?_) | ( exact hin) | refine ev_ret rfl ?_)
  · have he := hend (by omega)
    (refine UL6_10 ?_; unfold LB6_10)
    rcases hx with ⟨rfl, rfl⟩ | ⟨rfl, rfl⟩ <;> cases a
    all_goals repeat' (first | ((with_reducible refine eB ?_); first | ((with_reducible first | refine ev_lss ?_ ?_ | refine ev_eql ?_ ?_) <;> intro h <;> try (exfalso; omega)) | ((with_reducible refine ev_add ?_ ?_); · omega) | refine ev_bd rfl ?_ | refine ev_bd0 rfl ?_) | ((with_reducible refine eL ?_); first | ((with_reducible refine ev_lenm ?_ ?_); · rfl) | refine ev_lenom rfl rfl ?_ | refine ev_lenfm rfl rfl ?_ | refine ev_lenoc rfl rfl rfl ?_ | refine ev_lenc rfl rfl ?_ | refine ev_leno rfl rfl ?_ | refine ev_slen rfl ?_ | refine ev_bd rfl ?_ | refine ev_bd0 rfl ?_) | ((with_reducible refine eS ?_); first | ((with_reducible first | refine ev_slh ?_ ?_ ?_ | refine ev_sll ?_ ?_ ?_); (· rfl); · omega) | ((first | refine ev_slvh rfl rfl ?_ ?_ | refine ev_slvl rfl rfl ?_ ?_); (· first | omega | (simp only [List.length_cons, List.length_nil, List.length_map, List.length_append]; omega))) | refine ev_bd rfl ?_ | refine ev_bd0 rfl ?_) | ((with_reducible refine eC ?_); first | ((refine ev_callB (hP _ (by simp [List.eraseIdx_eq_take_drop_succ, tn_add1])) rfl rfl ?_ rfl rfl ?_ ?_); (focus first | exact .inl rfl | exact .inr rfl | (refine .inr ?_; simp [flagC, ownF, hasSl3, hasSl1, SO.hasSl, List.all_map, flatSV, SV.cells, Function.comp_def]; done)); (all_goals (intro h)); (all_goals (try (exfalso; simp_all; done))))) | ((with_reducible refine eA ?_); first | (refine ev_app rfl rfl rfl rfl rfl ?_ ?_; · first | decide | (simp only [List.length_append, List.length_cons, List.length_nil, List.length_map, List.length_take, List.length_drop]; omega)) | ( (refine ev_appv2 rfl rfl rfl rfl rfl ?_ ?_ ?_; (focus first | omega | (simp only [List.length_map]; omega)); (focus (simp only [List.length_append, List.length_map, List.length_drop, List.length_take, List.length_nil]; omega))))) | ((with_reducible refine eK ?_); first | (with_reducible first | refine ev_ct ?_ | refine ev_cf ?_) | ((with_reducible refine ev_cond ?_ ?_) <;> intro h)) | ((with_reducible refine eD ?_); first | refine ev_bd rfl ?_ | refine ev_bd0 rfl ?_) | (with_reducible refine ev_bothI ?_ ?_) | (with_reducible refine ev_bothQ (qyes) ?_ ?_) | ((with_reducible refine UJ6_17 ?_); (unfold JB6_17)) | refine ev_ret rfl ?_)
    all_goals first
      | exact ⟨rfl, rfl⟩
      | (exfalso; have h8 := hless.2 (fun h9 => Bool.noConfusion (he.2 h9)); rw [h] at h8; cases h8)
      | exact absurd (he.1 rfl) (hless.1 h)
      | trace_state

theorem pureFnPlanLess : ∀ l : List Int, l.length ≤ 140737488351232 → (∀ x ∈ l, (Lit.int .u8 x).wf = true) → ∀ m : List Int, m.length ≤ 140737488351232 → (∀ x ∈ m, (Lit.int .u8 x).wf = true) → ∃ n los, callF prg n 6 [.sl 1 (l.map bI), .sl 1 (m.map bI)] [] = some (.v (.bool true), los) := by
  intro l hlen hw m hlm hwm
  refine ev_true ?_
  (refine U6 (nl := 0) rfl ?_; unfold B6)
  repeat' (first | ((with_reducible refine eG ?_); first | (with_reducible first | refine ev_gtt ?_ | refine ev_gff ?_ | refine ev_gtf ?_ | refine ev_gft ?_ | refine ev_gu ?_) | refine ev_bd rfl ?_ | refine ev_bd0 rfl ?_ | ((with_reducible refine ev_gB ?_ ?_) <;> intro h)) | ((with_reducible refine eB ?_); first | ((with_reducible first | refine ev_gtr ?_ ?_ | refine ev_eql ?_ ?_ | refine ev_neq ?_ ?_) <;> intro h <;> try (exfalso; omega)) | ((with_reducible refine ev_rem ?_ ?_); (· omega); intro x hx hx0 hx1) | refine ev_bd rfl ?_ | refine ev_bd0 rfl ?_) | ((with_reducible refine eL ?_); first | ((with_reducible refine ev_lenm ?_ ?_); · rfl) | refine ev_lenom rfl rfl ?_ | refine ev_lenfm rfl rfl ?_ | refine ev_lenoc rfl rfl rfl ?_ | refine ev_lenc rfl rfl ?_ | refine ev_leno rfl rfl ?_ | refine ev_slen rfl ?_ | refine ev_bd rfl ?_ | refine ev_bd0 rfl ?_) | ((with_reducible refine eC ?_); first | ((refine ev_callE (s_DrawPlanOk l (bytes_of hw)) rfl rfl ?_); ((rintro _ _ ⟨s, ⟨rfl, rfl⟩ | ⟨rfl, rfl⟩, hs, hsm⟩) <;> ((have hp0 := PL_small hsm)) <;> (first | (refine ev_post ?_ rfl ?_; (focus first | exact .inl rfl | exact .inr rfl | (refine .inr ?_; simp [flagC, ownF, hasSl3, hasSl1, SO.hasSl, List.all_map, flatSV, SV.cells, Function.comp_def]; done))) | (refine ev_postF ?_ rfl ?_; (focus first | rfl | (simp [flagC, ownF, hasSl3, hasSl1, SO.hasSl, List.all_map, flatSV, SV.cells, Function.comp_def]; done)))))) | ((refine ev_callB (s_PlanOkS s (by omega) hp0) rfl rfl ?_ rfl rfl ?_ ?_); (focus first | exact .inl rfl | exact .inr rfl | (refine .inr ?_; simp [flagC, ownF, hasSl3, hasSl1, SO.hasSl, List.all_map, flatSV, SV.cells, Function.comp_def]; done)); (all_goals (intro h)); (all_goals (try (exfalso; simp_all; done)))) | ((refine ev_callB (s_PlanOkI s (by omega) hp0) rfl rfl ?_ rfl rfl ?_ ?_); (focus first | exact .inl rfl | exact .inr rfl | (refine .inr ?_; simp [flagC, ownF, hasSl3, hasSl1, SO.hasSl, List.all_map, flatSV, SV.cells, Function.comp_def]; done)); (all_goals (intro h)); (all_goals (try (exfalso; simp_all; done))))) | ((with_reducible refine eK ?_); first | (with_reducible first | refine ev_ct ?_ | refine ev_cf ?_) | ((with_reducible refine ev_cond ?_ ?_) <;> intro h)) | ((with_reducible refine eD ?_); first | refine ev_bd rfl ?_ | refine ev_bd0 rfl ?_ | ((with_reducible refine ev_pickB ?_ ?_) <;> intro h)) | ( ((obtain ⟨k, rfl⟩ : ∃ k : Nat, x = (k : Int) := ⟨x.toNat, by omega⟩); exact s_FnPlanLess_L10 s hs hsm (by assumption) k (by omega) (by first | exact .inl ⟨rfl, rfl⟩ | exact .inr ⟨rfl, rfl⟩) 0 (by omega) _ (by simp [needTo]) 0 0 rfl)) | refine ev_ret rfl ?_)
  all_goals first
    | rfl
    | (exfalso; simp_all; done)
    | trace_state

end Go.Proofs.Ytgeolifkmiglgaa
