/- The law FnNewest, in S: S says yes, whatever the bytes. -/
import Derived.Test.YtgeolifkmiglgaaV21
import Derived.Test.YtgeolifkmiglgaaV22
import Derived.Test.YtgeolifkmiglgaaTb
namespace Go.Proofs.Ytgeolifkmiglgaa
open Go
set_option linter.unusedVariables false
set_option linter.unusedSimpArgs false
set_option maxHeartbeats 40000000
set_option maxRecDepth 100000

abbrev osNew (s : List TPkg) (p : TPkg) : List SO := [.arr false 4 (s.map ePkg), .arr false 2 (p.files.map eFile), .arr false 2 (p.deps.map eDep), .arr false 2 [], .arr false 2 [], .box [iI p.name, iI p.ver, .osl 1, .osl 2],
  .arr false 2 (p.files.map eFile), .arr false 2 (p.deps.map eDep), .arr false 2 [], .arr false 2 [], .box [iI p.name, iI p.ver, .osl 6, .osl 7]]
theorem s_FnNewest_L (s : List TPkg) (name : Int) (p : TPkg) (ok : Bool) (hs : s.length ≤ 9) (hp0 : PL s) (hok : storeOk s = true) (h1 : newestP s name = (p, ok)) : ∀ i, i ≤ s.length → ∀ (a : Bool) (k : Int) (c : Nat), k = i → (a = true ↔ ∃ j, j < i ∧ (nth s j).name = name) →
    Ev (fun n => L4_10 (callF prg n) (n + 1) 0 (n + 1 - c) (.osl 0) (iI name) (.ptr 10 0) (bB ok) (bB a) (iI k) (osNew s p)) QYes := by
  refine up_ind ?_
  intro i hi ih a k c hk ha
  subst hk
  have hl1 := newest_len h1 hp0
  have hmx : ok = true → i < s.length → (nth s i).name = name → ¬ p.ver < (nth s i).ver := fun e hi2 hn => by
    subst e
    rcases store_max hok h1 (nth_mem hi2) hn with e2 | e2
    · rw [e2]; omega
    · omega
  have hno : ok = false → i < s.length → (nth s i).name ≠ name := fun e hi2 => by
    subst e; exact (newest_false h1).2 _ (nth_mem hi2)
  have hst : ∀ b : Bool, (b = true ↔ a = true ∨ (nth s i).name = name) → (b = true ↔ ∃ j, j < i + 1 ∧ (nth s j).name = name) := fun b hb => by
    rw [hb, ha]
    constructor
    · rintro (⟨j, hj, e⟩ | e)
      · exact ⟨j, by omega, e⟩
      · exact ⟨i, by omega, e⟩
    · rintro ⟨j, hj, e⟩
      by_cases ej : j = i
      · subst ej; exact .inr e
      · exact .inl ⟨j, by omega, e⟩
  have hend : ¬ i < s.length → ok = a ∧ (ok = true → p ∈ s ∧ p.name = name) := fun hi2 => by
    obtain rfl : i = s.length := by omega
    cases ok with
    | true =>
      obtain ⟨e1, e2, -⟩ := newest_true h1
      obtain ⟨j, hj, e3⟩ := mem_nth e1
      exact ⟨(ha.2 ⟨j, hj, by rw [e3]; exact e2⟩).symm, fun _ => ⟨e1, e2⟩⟩
    | false =>
      refine ⟨?_, fun e => by cases e⟩
      cases a with
      | false => rfl
      | true => obtain ⟨j, hj, e3⟩ := ha.1 rfl; exact absurd e3 ((newest_false h1).2 _ (nth_mem hj))
  (refine UL4_10 ?_; unfold LB4_10)
  cases ok <;> cases a
  all_goals repeat' (first | ((with_reducible refine eG ?_); first | (with_reducible first | refine ev_gtt ?_ | refine ev_gff ?_ | refine ev_gtf ?_ | refine ev_gft ?_ | refine ev_gu ?_) | refine ev_bd rfl ?_ | refine ev_bd0 rfl ?_ | ((with_reducible refine ev_gB ?_ ?_) <;> intro h)) | ((with_reducible refine eB ?_); first | ((with_reducible first | refine ev_lss ?_ ?_ | refine ev_gtr ?_ ?_ | refine ev_eql ?_ ?_) <;> intro h <;> try (exfalso; omega)) | ((with_reducible refine ev_add ?_ ?_); · omega) | refine ev_bd rfl ?_ | refine ev_bd0 rfl ?_) | ((with_reducible refine eL ?_); first | ((with_reducible refine ev_lenm ?_ ?_); · rfl) | refine ev_lenom rfl rfl ?_ | refine ev_lenfm rfl rfl ?_ | refine ev_lenoc rfl rfl rfl ?_ | refine ev_lenc rfl rfl ?_ | refine ev_leno rfl rfl ?_ | refine ev_slen rfl ?_ | refine ev_bd rfl ?_ | refine ev_bd0 rfl ?_) | ((with_reducible refine eI ?_); first | ((with_reducible refine ev_idx ?_ ?_ ?_); (· rfl); · omega) | (refine ev_idxo rfl rfl ?_ ?_; (· first | omega | (simp only [List.length_cons, List.length_nil, List.length_map, List.length_append]; omega))) | refine ev_bd rfl ?_ | refine ev_bd0 rfl ?_) | ((with_reducible refine eC ?_); first | ((refine ev_callD (s_luIn s p (by omega) hp0) rfl rfl ?_ rfl rfl ?_ ?_); (focus first | exact .inl rfl | exact .inr rfl | (refine .inr ?_; simp [flagC, ownF, hasSl3, hasSl1, SO.hasSl, List.all_map, flatSV, SV.cells, Function.comp_def]; done)); (all_goals (intro h)); (all_goals (try (exfalso; first | omega | exact h rfl | exact h ⟨rfl, rfl, rfl⟩))))) | ((with_reducible refine eK ?_); first | (with_reducible first | refine ev_ct ?_ | refine ev_cf ?_) | ((with_reducible refine ev_cond ?_ ?_) <;> intro h)) | ((with_reducible refine eO ?_); first | refine ev_bd rfl ?_ | (refine ev_bdB rfl ?_ ?_ <;> intro h <;> try (exfalso; simp_all; done)) | refine ev_bd0 rfl ?_ | (refine ev_ldm rfl ?_ rfl ?_; (focus omega)) | (refine ev_ldmB rfl ?_ rfl ?_ ?_; (focus omega); (all_goals intro h))) | ((with_reducible refine eD ?_); first | refine ev_bd rfl ?_ | refine ev_bd0 rfl ?_ | ((with_reducible refine ev_pickB ?_ ?_) <;> intro h)) | ((with_reducible refine ih ?_ _ _ _ ?_ (hst _ ?_)) <;> (first | omega | assumption | ((first | exact ⟨fun _ => .inl rfl, fun _ => rfl⟩ | exact ⟨fun _ => .inr (by assumption), fun _ => rfl⟩ | exact ⟨fun e => by cases e, fun e => by rcases e with e | e; cases e; exact absurd e (by assumption)⟩)) | (simp only [*, List.map_append, List.length_append, List.length_cons, List.length_nil, List.map_cons, List.map_nil]; done) | (simp_all; done) | (simp_all; omega))) | refine ev_ret rfl ?_)
  all_goals first
    | rfl
    | (exfalso; simp_all; done)
    | (exfalso; exact absurd (by assumption) (hmx rfl (by omega) (by assumption)))
    | (exfalso; exact absurd (by assumption) (hno rfl (by omega)))
    | trace_state

theorem pureFnNewest : ∀ l : List Int, l.length ≤ 140737488351232 → (∀ x ∈ l, (Lit.int .u8 x).wf = true) → ∃ n los, callF prg n 4 [.sl 1 (l.map bI)] [] = some (.v (.bool true), los) := by
  intro l hlen hw
  refine ev_true ?_
  (refine U4 (nl := 0) rfl ?_; unfold B4)
  repeat' (first | ((with_reducible refine eG ?_); first | (with_reducible first | refine ev_gtt ?_ | refine ev_gff ?_ | refine ev_gtf ?_ | refine ev_gft ?_ | refine ev_gu ?_) | refine ev_bd rfl ?_ | refine ev_bd0 rfl ?_ | ((with_reducible refine ev_gB ?_ ?_) <;> intro h)) | ((with_reducible refine eB ?_); first | ((with_reducible first | refine ev_gtr ?_ ?_ | refine ev_eql ?_ ?_ | refine ev_neq ?_ ?_) <;> intro h <;> try (exfalso; omega)) | refine ev_bd rfl ?_ | refine ev_bd0 rfl ?_) | ((with_reducible refine eL ?_); first | ((with_reducible refine ev_lenm ?_ ?_); · rfl) | refine ev_lenom rfl rfl ?_ | refine ev_lenfm rfl rfl ?_ | refine ev_lenoc rfl rfl rfl ?_ | refine ev_lenc rfl rfl ?_ | refine ev_leno rfl rfl ?_ | refine ev_slen rfl ?_ | refine ev_bd rfl ?_ | refine ev_bd0 rfl ?_) | ((with_reducible refine eC ?_); first | ((refine ev_callE (s_DrawStoreNewest l (bytes_of hw)) rfl rfl ?_); ((rintro _ _ ⟨s, name, rfl, rfl, hs, hsm⟩) <;> ((have hp0 := PL_small hsm)) <;> (first | (refine ev_post ?_ rfl ?_; (focus first | exact .inl rfl | exact .inr rfl | (refine .inr ?_; simp [flagC, ownF, hasSl3, hasSl1, SO.hasSl, List.all_map, flatSV, SV.cells, Function.comp_def]; done))) | (refine ev_postF ?_ rfl ?_; (focus first | rfl | (simp [flagC, ownF, hasSl3, hasSl1, SO.hasSl, List.all_map, flatSV, SV.cells, Function.comp_def]; done)))))) | ((refine ev_callE (s_StoreNewestS s (by omega) hp0 name) rfl rfl ?_); ((rintro _ _ ⟨p1, ok1, h1, rfl, rfl⟩) <;> ((have hl1 := storeNewest_len h1 hp0)) <;> (first | (refine ev_post ?_ rfl ?_; (focus first | exact .inl rfl | exact .inr rfl | (refine .inr ?_; simp [flagC, ownF, hasSl3, hasSl1, SO.hasSl, List.all_map, flatSV, SV.cells, Function.comp_def]; done))) | (refine ev_postF ?_ rfl ?_; (focus first | rfl | (simp [flagC, ownF, hasSl3, hasSl1, SO.hasSl, List.all_map, flatSV, SV.cells, Function.comp_def]; done)))))) | ((refine ev_callE (s_StoreNewestI s (by omega) hp0 name) rfl rfl ?_); ((rintro _ _ ⟨p2, ok2, h2, rfl, rfl⟩) <;> (((obtain ⟨rfl, rfl⟩ := Prod.mk.inj (h1.symm.trans h2)); (rcases ok1 with _ | _))) <;> (first | (refine ev_post ?_ rfl ?_; (focus first | exact .inl rfl | exact .inr rfl | (refine .inr ?_; simp [flagC, ownF, hasSl3, hasSl1, SO.hasSl, List.all_map, flatSV, SV.cells, Function.comp_def]; done))) | (refine ev_postF ?_ rfl ?_; (focus first | rfl | (simp [flagC, ownF, hasSl3, hasSl1, SO.hasSl, List.all_map, flatSV, SV.cells, Function.comp_def]; done)))))) | ((refine ev_callD (s_luPkg p1 p1 hl1.1 hl1.2) rfl rfl ?_ rfl rfl ?_ ?_); (focus first | exact .inl rfl | exact .inr rfl | (refine .inr ?_; simp [flagC, ownF, hasSl3, hasSl1, SO.hasSl, List.all_map, flatSV, SV.cells, Function.comp_def]; done)); (all_goals (intro h)); (all_goals (try (exfalso; first | omega | exact h rfl | exact h ⟨rfl, rfl, rfl⟩)))) | ((refine ev_callB (s_StoreOkS s (by omega) hp0) rfl rfl ?_ rfl rfl ?_ ?_); (focus first | exact .inl rfl | exact .inr rfl | (refine .inr ?_; simp [flagC, ownF, hasSl3, hasSl1, SO.hasSl, List.all_map, flatSV, SV.cells, Function.comp_def]; done)); (all_goals (intro h)); (all_goals (try (exfalso; simp_all; done))))) | ((with_reducible refine eK ?_); first | (with_reducible first | refine ev_ct ?_ | refine ev_cf ?_) | ((with_reducible refine ev_cond ?_ ?_) <;> intro h)) | ((with_reducible refine eO ?_); first | refine ev_bd rfl ?_ | (refine ev_bdB rfl ?_ ?_ <;> intro h <;> try (exfalso; simp_all; done)) | refine ev_bd0 rfl ?_ | (refine ev_ldm rfl ?_ rfl ?_; (focus omega)) | (refine ev_ldmB rfl ?_ rfl ?_ ?_; (focus omega); (all_goals intro h))) | ((with_reducible refine eD ?_); first | refine ev_bd rfl ?_ | refine ev_bd0 rfl ?_ | ((with_reducible refine ev_pickB ?_ ?_) <;> intro h)) | ( exact s_FnNewest_L s name p1 _ hs hp0 (by assumption) (by first | exact (storeNewest_true h1).2 | exact storeNewest_false h1 (by assumption)) 0 (by omega) _ _ 0 rfl (by simp)) | refine ev_ret rfl ?_)
  all_goals first | rfl | trace_state

end Go.Proofs.Ytgeolifkmiglgaa
