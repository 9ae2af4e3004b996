/- The law FnExactPlanFiles, in S: S says yes, whatever the argument. -/
import Derived.Test.YtgeolifkmiglgaaV7
import Derived.Test.YtgeolifkmiglgaaV28
import Derived.Test.YtgeolifkmiglgaaV43
import Derived.Test.YtgeolifkmiglgaaV21
import Derived.Test.YtgeolifkmiglgaaTg
namespace Go.Proofs.Ytgeolifkmiglgaa
open Go
set_option linter.unusedVariables false
set_option linter.unusedSimpArgs false
set_option maxHeartbeats 40000000
set_option maxRecDepth 100000
theorem Ex2f (n : Nat) (x0 : SV) (os : List SO) : callF prg2 (n + 1) 11 [x0] os = X11 (callF prg2 n) (n + 1) os.length x0 os := by kernel_rfl
theorem Ux2f {Q : SV → List SO → Prop} {x0 : SV} {os : List SO} {nl : Nat} (hnl : os.length = nl) (h : Ev (fun n => B11 (callF prg2 n) (n + 1) nl x0 os) Q) : Ev (fun n => callF prg2 n 11 [x0] os) Q := by
  subst hnl; exact ev_fun (fun n => (Ex2f n _ _).trans (X11_s _ _ _ _ _)) h
theorem pureFnExactPlanFiles : ∀ s : List TPkg, okPkgs s → ∃ n los, callF prg2 n 11 [.sl 4 (s.map ePkg)] [] = some (.v (.bool true), los) := by
  intro s hs
  refine ev_true2 ?_
  obtain ⟨z, hz, he⟩ := s_szPkgS s hs 1048576 (by omega)
  by_cases h1 : z < 0
  · refine Ux2f (nl := 0) rfl ?_
    unfold B11
    repeat' (first | ((with_reducible refine eG ?_); first | (with_reducible first | refine ev_gtt ?_ | refine ev_gff ?_ | refine ev_gtf ?_ | refine ev_gft ?_ | refine ev_gu ?_) | refine ev_bd rfl ?_ | refine ev_bd0 rfl ?_ | ((with_reducible refine ev_gB ?_ ?_) <;> intro h)) | ((with_reducible refine eB ?_); first | ((with_reducible first | refine ev_lss ?_ ?_ | refine ev_neq ?_ ?_) <;> intro h <;> try (exfalso; omega)) | refine ev_bd rfl ?_ | refine ev_bd0 rfl ?_) | ((with_reducible refine eC ?_); first | ((refine ev_call (lift he rfl) rfl rfl ?_ rfl ?_); (focus first | exact .inl rfl | exact .inr rfl | (refine .inr ?_; simp [flagC, ownF, hasSl3, hasSl1, SO.hasSl, List.all_map, flatSV, SV.cells, Function.comp_def]; done)))) | ((with_reducible refine eK ?_); first | (with_reducible first | refine ev_ct ?_ | refine ev_cf ?_) | ((with_reducible refine ev_cond ?_ ?_) <;> intro h)) | ((with_reducible refine eD ?_); first | refine ev_bd rfl ?_ | refine ev_bd0 rfl ?_ | ((with_reducible refine ev_pickB ?_ ?_) <;> intro h)) | refine ev_ret rfl ?_)
    all_goals first | rfl | (exfalso; omega)
  have hl := hz.2.2 (by omega)
  have hS := s_PlanFilesS s hl.len hl.pl
  have hI := s_PlanFilesI s hl.len hl.pl
  have hfl : (planFiles s).length ≤ 2000000 := by unfold planFiles; split; rw [filesP_len]; omega; simp
  refine Ux2f (nl := 0) rfl ?_
  unfold B11
  repeat' (first | ((with_reducible refine eG ?_); first | (with_reducible first | refine ev_gtt ?_ | refine ev_gff ?_ | refine ev_gtf ?_ | refine ev_gft ?_ | refine ev_gu ?_) | refine ev_bd rfl ?_ | refine ev_bd0 rfl ?_ | ((with_reducible refine ev_gB ?_ ?_) <;> intro h)) | ((with_reducible refine eB ?_); first | ((with_reducible first | refine ev_lss ?_ ?_ | refine ev_neq ?_ ?_) <;> intro h <;> try (exfalso; omega)) | refine ev_bd rfl ?_ | refine ev_bd0 rfl ?_) | ((with_reducible refine eC ?_); first | ((refine ev_call (lift he rfl) rfl rfl ?_ rfl ?_); (focus first | exact .inl rfl | exact .inr rfl | (refine .inr ?_; simp [flagC, ownF, hasSl3, hasSl1, SO.hasSl, List.all_map, flatSV, SV.cells, Function.comp_def]; done))) | ((refine ev_call (s_toPkgSN s hl) rfl rfl ?_ rfl ?_); (focus first | exact .inl rfl | exact .inr rfl | (refine .inr ?_; simp [flagC, ownF, hasSl3, hasSl1, SO.hasSl, List.all_map, flatSV, SV.cells, Function.comp_def]; done))) | ((refine ev_call (lift hS rfl) rfl rfl ?_ rfl ?_); (focus first | exact .inl rfl | exact .inr rfl | (refine .inr ?_; simp [flagC, ownF, hasSl3, hasSl1, SO.hasSl, List.all_map, flatSV, SV.cells, Function.comp_def]; done))) | ((refine ev_call (lift hI rfl) rfl rfl ?_ rfl ?_); (focus first | exact .inl rfl | exact .inr rfl | (refine .inr ?_; simp [flagC, ownF, hasSl3, hasSl1, SO.hasSl, List.all_map, flatSV, SV.cells, Function.comp_def]; done))) | ((refine ev_callD (lift (s_eqIntS (planFiles s) (planFiles s) hfl) rfl) rfl rfl ?_ rfl rfl ?_ ?_); (focus first | exact .inl rfl | exact .inr rfl | (refine .inr ?_; simp [flagC, ownF, hasSl3, hasSl1, SO.hasSl, List.all_map, flatSV, SV.cells, Function.comp_def]; done)); (all_goals (intro h)); (all_goals (try (exfalso; first | omega | exact h rfl | exact h ⟨rfl, rfl, rfl⟩)))) | ((refine ev_callD (lift (s_eqPkgS s s hl.len hl.pl) rfl) rfl rfl ?_ rfl rfl ?_ ?_); (focus first | exact .inl rfl | exact .inr rfl | (refine .inr ?_; simp [flagC, ownF, hasSl3, hasSl1, SO.hasSl, List.all_map, flatSV, SV.cells, Function.comp_def]; done)); (all_goals (intro h)); (all_goals (try (exfalso; first | omega | exact h rfl | exact h ⟨rfl, rfl, rfl⟩)))) | ((refine ev_callE (s_markPkgSN s hl 1 (by omega)) rfl rfl ?_); ((rintro _ _ ⟨k, l, rfl, rfl, hk1, hk2⟩) <;> (first | (refine ev_post ?_ rfl ?_; (focus first | exact .inl rfl | exact .inr rfl | (refine .inr ?_; simp [flagC, ownF, hasSl3, hasSl1, SO.hasSl, List.all_map, flatSV, SV.cells, Function.comp_def]; done))) | (refine ev_postF ?_ rfl ?_; (focus first | rfl | (simp [flagC, ownF, hasSl3, hasSl1, SO.hasSl, List.all_map, flatSV, SV.cells, Function.comp_def]; done)))))) | ((refine ev_call (lift (s_markIntS (planFiles s) 1 (by omega) hfl) rfl) rfl rfl ?_ rfl ?_); (focus first | exact .inl rfl | exact .inr rfl | (refine .inr ?_; simp [flagC, ownF, hasSl3, hasSl1, SO.hasSl, List.all_map, flatSV, SV.cells, Function.comp_def]; done))) | ((refine ev_call (lift (s_heldIntS 1 (by omega) (planFiles s).length hfl) rfl) rfl rfl ?_ rfl ?_); (focus first | exact .inl rfl | exact .inr rfl | (refine .inr ?_; simp [flagC, ownF, hasSl3, hasSl1, SO.hasSl, List.all_map, flatSV, SV.cells, Function.comp_def]; done)))) | ((with_reducible refine eK ?_); first | (with_reducible first | refine ev_ct ?_ | refine ev_cf ?_) | ((with_reducible refine ev_cond ?_ ?_) <;> intro h)) | ((with_reducible refine eD ?_); first | refine ev_bd rfl ?_ | refine ev_bd0 rfl ?_ | ((with_reducible refine ev_pickB ?_ ?_) <;> intro h)) | refine ev_ret rfl ?_)
  all_goals first | rfl | (exfalso; omega) | (exfalso; simp_all; done) | trace_state
end Go.Proofs.Ytgeolifkmiglgaa
