/- The law FnForHas, in S: S says yes, whatever the bytes. -/
import Derived.Test.YtlnenahbffkbiaaV34
namespace Go.Proofs.Ytlnenahbffkbiaa
open Go
set_option linter.unusedVariables false
set_option linter.unusedSimpArgs false
set_option maxHeartbeats 40000000
set_option maxRecDepth 100000
theorem s_ForHas_G (hv r : List TPkg) (hvl : hv.length ≤ 4) (hrl : r.length ≤ 4) (hrp : PL r) (hpl : planOk r = true) (hhas : ∀ i, i < hv.length → ∃ p, storeNewest r (nth hv i).name = (p, true) ∧ (nth hv i).ver ≤ p.ver) : ∀ i : Nat, i ≤ hv.length → ∀ (k : Int) (c : Nat), k = i →
    Ev (fun n => G5_10 (callF prg n) (n + 1) 0 (n + 1 - c) [.sl 4 (hv.map ePkg), .osl 0, bB true, iI k] [.arr false 4 (r.map ePkg)]) QYes := by
  refine up_ind ?_
  intro i hi ih k c hk
  subst hk
  have hx : i < hv.length → ∀ q bq, storeNewest r (nth hv (Int.toNat (i : Int))).name = (q, bq) → bq = true ∧ (nth hv i).ver ≤ q.ver := fun h q bq hq => by
    rw [Int.toNat_natCast] at hq
    obtain ⟨p, hp, hv⟩ := hhas i h
    rw [hp] at hq
    obtain ⟨rfl, rfl⟩ := Prod.mk.inj hq
    exact ⟨rfl, hv⟩
  (refine UG5_10 _ ?_; unfold GB5_10)
  repeat' (first | ((with_reducible refine eG ?_); first | (with_reducible first | refine ev_gtt ?_ | refine ev_gff ?_ | refine ev_gtf ?_ | refine ev_gft ?_ | refine ev_gu ?_) | refine ev_bd rfl ?_ | refine ev_bd0 rfl ?_ | ((with_reducible refine ev_gB ?_ ?_) <;> intro h)) | ((with_reducible refine eB ?_); first | ((with_reducible refine ev_lss ?_ ?_) <;> intro h <;> try (exfalso; omega)) | ((with_reducible refine ev_add ?_ ?_); · omega) | refine ev_bd rfl ?_ | refine ev_bd0 rfl ?_) | ((with_reducible refine eL ?_); first | ((with_reducible refine ev_lenm ?_ ?_); · rfl) | refine ev_lenom rfl rfl ?_ | refine ev_lenfm rfl rfl ?_ | refine ev_lenoc rfl rfl rfl ?_ | refine ev_lenc rfl rfl ?_ | refine ev_leno rfl rfl ?_ | refine ev_slen rfl ?_ | refine ev_bd rfl ?_ | refine ev_bd0 rfl ?_) | ((with_reducible refine eI ?_); first | ((with_reducible refine ev_idxn ?_ ?_ ?_); (· rfl); · omega) | (refine ev_idxon rfl rfl ?_ ?_; (· first | omega | (simp only [List.length_cons, List.length_nil, List.length_map, List.length_append]; omega))) | (refine ev_idxfn rfl rfl ?_ ?_; (focus omega)) | ((with_reducible refine ev_idx ?_ ?_ ?_); (· rfl); · omega) | (refine ev_idxo rfl rfl ?_ ?_; (· first | omega | (simp only [List.length_cons, List.length_nil, List.length_map, List.length_append]; omega))) | (refine ev_idxf rfl rfl ?_ ?_; (focus omega)) | refine ev_bd rfl ?_ | refine ev_bd0 rfl ?_) | ((with_reducible refine eC ?_); first | ((refine ev_callE (s_StoreNewestI r (by omega) hrp _) rfl rfl ?_); ((rintro _ _ ⟨q, bq, hq, rfl, rfl⟩) <;> ((obtain ⟨rfl, hqv⟩ := hx (by omega) q bq hq)) <;> (first | (refine ev_post ?_ rfl ?_; (focus first | exact .inl rfl | exact .inr rfl | (refine .inr ?_; simp [flagC, ownF, hasSl3, hasSl1, SO.hasSl, List.all_map, flatSV, SV.cells, Function.comp_def]; done))) | (refine ev_postF ?_ rfl ?_; (focus first | rfl | (simp [flagC, ownF, hasSl3, hasSl1, SO.hasSl, List.all_map, flatSV, SV.cells, Function.comp_def]; done)))))) | ((refine ev_callB (s_PlanOkI r (by omega) hrp) rfl rfl ?_ rfl rfl ?_ ?_); (focus first | exact .inl rfl | exact .inr rfl | (refine .inr ?_; simp [flagC, ownF, hasSl3, hasSl1, SO.hasSl, List.all_map, flatSV, SV.cells, Function.comp_def]; done)); (all_goals (intro h)); (all_goals (try (exfalso; simp_all; done))))) | ((with_reducible refine eK ?_); first | (with_reducible first | refine ev_ct ?_ | refine ev_cf ?_) | ((with_reducible refine ev_cond ?_ ?_) <;> intro h)) | ((with_reducible refine eO ?_); first | refine ev_bd rfl ?_ | (refine ev_bdB rfl ?_ ?_ <;> intro h <;> try (exfalso; simp_all; done)) | refine ev_bd0 rfl ?_ | (refine ev_ldm rfl ?_ rfl ?_; (focus omega)) | (refine ev_ldmB rfl ?_ rfl ?_ ?_; (focus omega); (all_goals intro h))) | ((with_reducible refine eD ?_); first | refine ev_bd rfl ?_ | refine ev_bd0 rfl ?_ | ((with_reducible refine ev_pickB ?_ ?_) <;> intro h)) | ((with_reducible refine eH ?_); first | refine ev_gcB rfl ?_) | (with_reducible first | refine UL5_10 ?_ | refine VL5_10 ?_) | ((with_reducible refine ih ?_ _ _ ?_) <;> (first | omega | assumption | (simp only [*, List.map_append, List.length_append, List.length_cons, List.length_nil, List.map_cons, List.map_nil]; done) | (simp_all; done) | (simp_all; omega))) | refine ev_ret rfl ?_)
  all_goals first
    | rfl
    | (exfalso; (try simp only [Int.toNat_natCast, tn_sub1, tn_add1] at *); omega)
    | (exfalso; simp_all; done)
    | trace_state
theorem has_what {st hv : List TPkg} {name : Int} {r : List TPkg} (hr : planFor st hv name = (r, true)) : planOk r = true ∧ (∀ q b, storeNewest r name = (q, b) → b = true) ∧ ∀ i, i < hv.length → ∃ p, storeNewest r (nth hv i).name = (p, true) ∧ (nth hv i).ver ≤ p.ver := by
  have hg := got_of hr
  have hnew : ∀ {n}, Reach st hv name n → ∃ p, storeNewest r n = (p, true) ∧ pickP st hv n = (p, true) := fun {n} hre => by
    obtain ⟨p, hp, e, h2⟩ := hg.reach hre
    refine ⟨p, ?_, h2⟩
    rw [storeNewest_ok hg.store, ← e]
    exact newest_is hg.srt hp
  refine ⟨hg.plan, fun q b hq => ?_, fun i hi => ?_⟩
  · obtain ⟨p, hp, -⟩ := hnew .this
    rw [hp] at hq
    exact (Prod.mk.inj hq).2.symm
  · obtain ⟨p, hp, h2⟩ := hnew (.was (nth_mem hi))
    exact ⟨p, hp, pick_ge hg.ok.1 (planOk_iff.1 hg.ok.2.1).1 h2 (.inr (nth_mem hi)) rfl⟩
theorem pureFnForHas : ∀ l : List Int, l.length ≤ 140737488351232 → (∀ x ∈ l, (Lit.int .u8 x).wf = true) → ∃ n los, callF prg n 5 [.sl 1 (l.map bI)] [] = some (.v (.bool true), los) := by
  intro l hlen hw
  refine ev_true ?_
  (refine U5 (nl := 0) rfl ?_; unfold B5)
  repeat' (first | ((with_reducible refine eG ?_); first | (with_reducible first | refine ev_gtt ?_ | refine ev_gff ?_ | refine ev_gtf ?_ | refine ev_gft ?_ | refine ev_gu ?_) | refine ev_bd rfl ?_ | refine ev_bd0 rfl ?_ | ((with_reducible refine ev_gB ?_ ?_) <;> intro h)) | ((with_reducible refine eB ?_); first | ((with_reducible first | refine ev_gtr ?_ ?_ | refine ev_eql ?_ ?_ | refine ev_neq ?_ ?_) <;> intro h <;> try (exfalso; omega)) | refine ev_bd rfl ?_ | refine ev_bd0 rfl ?_) | ((with_reducible refine eL ?_); first | ((with_reducible refine ev_lenm ?_ ?_); · rfl) | refine ev_lenom rfl rfl ?_ | refine ev_lenfm rfl rfl ?_ | refine ev_lenoc rfl rfl rfl ?_ | refine ev_lenc rfl rfl ?_ | refine ev_leno rfl rfl ?_ | refine ev_slen rfl ?_ | refine ev_bd rfl ?_ | refine ev_bd0 rfl ?_) | ((with_reducible refine eC ?_); first | ((refine ev_callE (s_DrawPlanFor l (bytes_of hw)) rfl rfl ?_); ((rintro _ _ ⟨st, hv, name, rfl, rfl, hs, hsm, hs2, hsm2, hpl, hn1, hn2⟩) <;> (first | (refine ev_post ?_ rfl ?_; (focus first | exact .inl rfl | exact .inr rfl | (refine .inr ?_; simp [flagC, ownF, hasSl3, hasSl1, SO.hasSl, List.all_map, flatSV, SV.cells, Function.comp_def]; done))) | (refine ev_postF ?_ rfl ?_; (focus first | rfl | (simp [flagC, ownF, hasSl3, hasSl1, SO.hasSl, List.all_map, flatSV, SV.cells, Function.comp_def]; done)))))) | ((refine ev_callE (s_PlanForS st hv (by omega) (PL_small hsm) (by omega) (PL_small hsm2) name) rfl rfl ?_); ((rintro _ _ ⟨r, ok, hr, rfl, rfl⟩) <;> (first | (refine ev_post ?_ rfl ?_; (focus first | exact .inl rfl | exact .inr rfl | (refine .inr ?_; simp [flagC, ownF, hasSl3, hasSl1, SO.hasSl, List.all_map, flatSV, SV.cells, Function.comp_def]; done))) | (refine ev_postF ?_ rfl ?_; (focus first | rfl | (simp [flagC, ownF, hasSl3, hasSl1, SO.hasSl, List.all_map, flatSV, SV.cells, Function.comp_def]; done)))))) | ((refine ev_callE (s_PlanForI st hv (by omega) (PL_small hsm) (by omega) (PL_small hsm2) name) rfl rfl ?_); ((rintro _ _ ⟨r2, ok2, hr2, rfl, rfl⟩) <;> (((rw [hr] at hr2); (obtain ⟨rfl, rfl⟩ := Prod.mk.inj hr2); (obtain ⟨hrl, hrp⟩ := planFor_len hr hs2 hsm hsm2); (rcases ok with _ | _))) <;> (first | (refine ev_post ?_ rfl ?_; (focus first | exact .inl rfl | exact .inr rfl | (refine .inr ?_; simp [flagC, ownF, hasSl3, hasSl1, SO.hasSl, List.all_map, flatSV, SV.cells, Function.comp_def]; done))) | (refine ev_postF ?_ rfl ?_; (focus first | rfl | (simp [flagC, ownF, hasSl3, hasSl1, SO.hasSl, List.all_map, flatSV, SV.cells, Function.comp_def]; done)))))) | ((refine ev_call (s_luPSame r (by omega) hrp) rfl rfl ?_ rfl ?_); (focus first | exact .inl rfl | exact .inr rfl | (refine .inr ?_; simp [flagC, ownF, hasSl3, hasSl1, SO.hasSl, List.all_map, flatSV, SV.cells, Function.comp_def]; done))) | ((refine ev_callE (s_StoreNewestI r (by omega) hrp name) rfl rfl ?_); ((rintro _ _ ⟨p, b, hp9, rfl, rfl⟩) <;> (((obtain ⟨hp1, hp2, hp3⟩ := has_what hr); (obtain rfl := hp2 _ _ hp9); (have hG := fun c => s_ForHas_G hv r hs2 hrl hrp hp1 hp3 0 (Nat.zero_le _) 0 c rfl))) <;> (first | (refine ev_post ?_ rfl ?_; (focus first | exact .inl rfl | exact .inr rfl | (refine .inr ?_; simp [flagC, ownF, hasSl3, hasSl1, SO.hasSl, List.all_map, flatSV, SV.cells, Function.comp_def]; done))) | (refine ev_postF ?_ rfl ?_; (focus first | rfl | (simp [flagC, ownF, hasSl3, hasSl1, SO.hasSl, List.all_map, flatSV, SV.cells, Function.comp_def]; done))))))) | ((with_reducible refine eK ?_); first | (with_reducible first | refine ev_ct ?_ | refine ev_cf ?_) | ((with_reducible refine ev_cond ?_ ?_) <;> intro h)) | ((with_reducible refine eD ?_); first | refine ev_bd rfl ?_ | refine ev_bd0 rfl ?_ | ((with_reducible refine ev_pickB ?_ ?_) <;> intro h)) | ((with_reducible refine eH ?_); first | refine ev_gcB rfl ?_) | (with_reducible exact hG _) | (with_reducible first | refine UL5_10 ?_ | refine VL5_10 ?_) | refine ev_ret rfl ?_)
  all_goals first
    | rfl
    | trace_state
end Go.Proofs.Ytlnenahbffkbiaa
