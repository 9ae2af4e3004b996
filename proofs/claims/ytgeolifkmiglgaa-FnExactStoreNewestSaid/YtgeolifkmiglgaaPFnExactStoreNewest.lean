/- The law FnExactStoreNewest, in S: S says yes, whatever the arguments. -/
import Derived.Test.YtgeolifkmiglgaaV7
import Derived.Test.YtgeolifkmiglgaaV43
import Derived.Test.YtgeolifkmiglgaaV21
import Derived.Test.YtgeolifkmiglgaaTg
namespace Go.Proofs.Ytgeolifkmiglgaa
open Go
set_option linter.unusedVariables false
set_option linter.unusedSimpArgs false
set_option maxHeartbeats 40000000
set_option maxRecDepth 100000
theorem Ex2 (n : Nat) (x0 x1 : SV) (os : List SO) : callF prg2 (n + 1) 8 [x0, x1] os = X8 (callF prg2 n) (n + 1) os.length x0 x1 os := by kernel_rfl
theorem Ux2 {Q : SV → List SO → Prop} {x0 x1 : SV} {os : List SO} {nl : Nat} (hnl : os.length = nl) (h : Ev (fun n => B8 (callF prg2 n) (n + 1) nl x0 x1 os) Q) : Ev (fun n => callF prg2 n 8 [x0, x1] os) Q := by
  subst hnl; exact ev_fun (fun n => (Ex2 n _ _ _).trans (X8_s _ _ _ _ _ _)) h
theorem pureFnExactStoreNewest : ∀ s : List TPkg, okPkgs s → ∀ name : Int, True → ∃ n los, callF prg2 n 8 [.sl 4 (s.map ePkg), iI name] [] = some (.v (.bool true), los) := by
  intro s hs name _
  refine ev_true2 ?_
  obtain ⟨z, hz, he⟩ := s_szPkgS s hs 1048576 (by omega)
  by_cases h1 : z < 0
  · refine Ux2 (nl := 0) rfl ?_
    unfold B8
    repeat' (first | ((with_reducible refine eG ?_); first | (with_reducible first | refine ev_gtt ?_ | refine ev_gff ?_ | refine ev_gtf ?_ | refine ev_gft ?_ | refine ev_gu ?_) | refine ev_bd rfl ?_ | refine ev_bd0 rfl ?_ | ((with_reducible refine ev_gB ?_ ?_) <;> intro h)) | ((with_reducible refine eB ?_); first | ((with_reducible first | refine ev_lss ?_ ?_ | refine ev_neq ?_ ?_) <;> intro h <;> try (exfalso; omega)) | refine ev_bd rfl ?_ | refine ev_bd0 rfl ?_) | ((with_reducible refine eC ?_); first | ((refine ev_call (lift he rfl) rfl rfl ?_ rfl ?_); (focus first | exact .inl rfl | exact .inr rfl | (refine .inr ?_; simp [flagC, ownF, hasSl3, hasSl1, SO.hasSl, List.all_map, flatSV, SV.cells, Function.comp_def]; done)))) | ((with_reducible refine eK ?_); first | (with_reducible first | refine ev_ct ?_ | refine ev_cf ?_) | ((with_reducible refine ev_cond ?_ ?_) <;> intro h)) | ((with_reducible refine eO ?_); first | refine ev_bd rfl ?_ | (refine ev_bdB rfl ?_ ?_ <;> intro h <;> try (exfalso; simp_all; done)) | refine ev_bd0 rfl ?_ | (refine ev_ldm rfl ?_ rfl ?_; (focus omega)) | (refine ev_ldmB rfl ?_ rfl ?_ ?_; (focus omega); (all_goals intro h))) | ((with_reducible refine eD ?_); first | refine ev_bd rfl ?_ | refine ev_bd0 rfl ?_ | ((with_reducible refine ev_pickB ?_ ?_) <;> intro h)) | refine ev_ret rfl ?_)
    all_goals first | rfl | (exfalso; omega)
  have hl := hz.2.2 (by omega)
  obtain ⟨r, hr⟩ : ∃ r, r = storeNewest s name := ⟨_, rfl⟩
  obtain ⟨p, ok⟩ := r
  have hpl := storeNewest_len hr.symm hl.pl
  have hS : Ex _ _ _ := ev_is.1 (Ev.mono (s_StoreNewestS s hl.len hl.pl name) (R := Is (.tup [rPkg p 0 1, bB ok]) (oPkg p)) fun x os h => by
    obtain ⟨p2, ok2, h2, rfl, rfl⟩ := h
    rw [← hr] at h2; cases h2; exact ⟨rfl, rfl⟩)
  have hI : Ex _ _ _ := ev_is.1 (Ev.mono (s_StoreNewestI s hl.len hl.pl name) (R := Is (.tup [rPkg p 0 1, bB ok]) (oPkg p)) fun x os h => by
    obtain ⟨p2, ok2, h2, rfl, rfl⟩ := h
    rw [← hr] at h2; cases h2; exact ⟨rfl, rfl⟩)
  refine Ux2 (nl := 0) rfl ?_
  unfold B8
  cases ok
  all_goals repeat' (first | ((with_reducible refine eG ?_); first | (with_reducible first | refine ev_gtt ?_ | refine ev_gff ?_ | refine ev_gtf ?_ | refine ev_gft ?_ | refine ev_gu ?_) | refine ev_bd rfl ?_ | refine ev_bd0 rfl ?_ | ((with_reducible refine ev_gB ?_ ?_) <;> intro h)) | ((with_reducible refine eB ?_); first | ((with_reducible first | refine ev_lss ?_ ?_ | refine ev_neq ?_ ?_) <;> intro h <;> try (exfalso; omega)) | refine ev_bd rfl ?_ | refine ev_bd0 rfl ?_) | ((with_reducible refine eC ?_); first | ((refine ev_call (lift he rfl) rfl rfl ?_ rfl ?_); (focus first | exact .inl rfl | exact .inr rfl | (refine .inr ?_; simp [flagC, ownF, hasSl3, hasSl1, SO.hasSl, List.all_map, flatSV, SV.cells, Function.comp_def]; done))) | ((refine ev_call (s_toPkgSN s hl) rfl rfl ?_ rfl ?_); (focus first | exact .inl rfl | exact .inr rfl | (refine .inr ?_; simp [flagC, ownF, hasSl3, hasSl1, SO.hasSl, List.all_map, flatSV, SV.cells, Function.comp_def]; done))) | ((refine ev_call (lift hS rfl) rfl rfl ?_ rfl ?_); (focus first | exact .inl rfl | exact .inr rfl | (refine .inr ?_; simp [flagC, ownF, hasSl3, hasSl1, SO.hasSl, List.all_map, flatSV, SV.cells, Function.comp_def]; done))) | ((refine ev_call (lift hI rfl) rfl rfl ?_ rfl ?_); (focus first | exact .inl rfl | exact .inr rfl | (refine .inr ?_; simp [flagC, ownF, hasSl3, hasSl1, SO.hasSl, List.all_map, flatSV, SV.cells, Function.comp_def]; done))) | ((refine ev_callD (lift (s_eqPkg p p hpl.1 hpl.2) rfl) rfl rfl ?_ rfl rfl ?_ ?_); (focus first | exact .inl rfl | exact .inr rfl | (refine .inr ?_; simp [flagC, ownF, hasSl3, hasSl1, SO.hasSl, List.all_map, flatSV, SV.cells, Function.comp_def]; done)); (all_goals (intro h)); (all_goals (try (exfalso; first | omega | exact h rfl | exact h ⟨rfl, rfl, rfl⟩)))) | ((refine ev_callD (lift (s_eqPkgS s s hl.len hl.pl) rfl) rfl rfl ?_ rfl rfl ?_ ?_); (focus first | exact .inl rfl | exact .inr rfl | (refine .inr ?_; simp [flagC, ownF, hasSl3, hasSl1, SO.hasSl, List.all_map, flatSV, SV.cells, Function.comp_def]; done)); (all_goals (intro h)); (all_goals (try (exfalso; first | omega | exact h rfl | exact h ⟨rfl, rfl, rfl⟩)))) | ((refine ev_callE (s_markPkgSN s hl 1 (by omega)) rfl rfl ?_); ((rintro _ _ ⟨k, l, rfl, rfl, hk1, hk2⟩) <;> (first | (refine ev_post ?_ rfl ?_; (focus first | exact .inl rfl | exact .inr rfl | (refine .inr ?_; simp [flagC, ownF, hasSl3, hasSl1, SO.hasSl, List.all_map, flatSV, SV.cells, Function.comp_def]; done))) | (refine ev_postF ?_ rfl ?_; (focus first | rfl | (simp [flagC, ownF, hasSl3, hasSl1, SO.hasSl, List.all_map, flatSV, SV.cells, Function.comp_def]; done)))))) | ((refine ev_call (lift (s_markPkg p 1 (by omega) hpl.1 hpl.2) rfl) rfl rfl ?_ rfl ?_); (focus first | exact .inl rfl | exact .inr rfl | (refine .inr ?_; simp [flagC, ownF, hasSl3, hasSl1, SO.hasSl, List.all_map, flatSV, SV.cells, Function.comp_def]; done))) | ((refine ev_call (lift (s_heldPkg p.name p.ver 1 (by omega) p.files.length p.deps.length hpl.1 hpl.2) rfl) rfl rfl ?_ rfl ?_); (focus first | exact .inl rfl | exact .inr rfl | (refine .inr ?_; simp [flagC, ownF, hasSl3, hasSl1, SO.hasSl, List.all_map, flatSV, SV.cells, Function.comp_def]; done)))) | ((with_reducible refine eK ?_); first | (with_reducible first | refine ev_ct ?_ | refine ev_cf ?_) | ((with_reducible refine ev_cond ?_ ?_) <;> intro h)) | ((with_reducible refine eO ?_); first | refine ev_bd rfl ?_ | (refine ev_bdB rfl ?_ ?_ <;> intro h <;> try (exfalso; simp_all; done)) | refine ev_bd0 rfl ?_ | (refine ev_ldm rfl ?_ rfl ?_; (focus omega)) | (refine ev_ldmB rfl ?_ rfl ?_ ?_; (focus omega); (all_goals intro h))) | ((with_reducible refine eD ?_); first | refine ev_bd rfl ?_ | refine ev_bd0 rfl ?_ | ((with_reducible refine ev_pickB ?_ ?_) <;> intro h)) | refine ev_ret rfl ?_)
  all_goals first | rfl | (exfalso; omega) | (exfalso; simp_all; done) | trace_state
end Go.Proofs.Ytgeolifkmiglgaa
