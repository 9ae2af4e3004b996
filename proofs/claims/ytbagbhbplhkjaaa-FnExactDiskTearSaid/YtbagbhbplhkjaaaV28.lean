/- The evaluator S and what it says of functions: V20, V21, V22, V23, V24, V25, V26, V27, V28. -/
import Derived.Test.YtbagbhbplhkjaaaV7
import Derived.KernelRfl
/- Packages in a store: the program's functions, the newest, the same. -/
namespace Go.Proofs.Ytbagbhbplhkjaaa
open Go
set_option linter.unusedVariables false
set_option linter.unusedSimpArgs false
set_option maxHeartbeats 4000000
theorem s_PkgOkI_L10 (name ver : Int) (F : List TFile) (D : List TDep) (hD : D.length ≤ 2000000) : ∀ i, i ≤ D.length → (∀ j, j < i → depAt name D j) → ∀ (k : Int) (c : Nat), k = i →
    Ev (fun n => G70_10 (callF prg n) (n + 1) 0 (n + 1 - c) [.ptr 0 0, .sl 2 (D.map eDep), iI D.length, iI k] [.box [iI name, iI ver, .sl 2 (F.map eFile), .sl 2 (D.map eDep)]]) (Is (bB (depsAt name D)) []) := by
  refine up_ind ?_
  intro i hi ih hp k c hk
  subst hk
  (refine UG70_10 _ ?_; unfold GB70_10)
  repeat' (first | ((with_reducible refine eG ?_); first | (with_reducible first | refine ev_gtt ?_ | refine ev_gff ?_ | refine ev_gtf ?_ | refine ev_gft ?_ | refine ev_gu ?_) | refine ev_bd rfl ?_ | refine ev_bd0 rfl ?_ | ((with_reducible refine ev_gB ?_ ?_) <;> intro h)) | ((with_reducible refine eB ?_); first | ((with_reducible first | refine ev_lss ?_ ?_ | refine ev_leq ?_ ?_ | refine ev_gtr ?_ ?_ | refine ev_eql ?_ ?_) <;> intro h <;> try (exfalso; omega)) | ((with_reducible first | refine ev_add ?_ ?_ | refine ev_sub ?_ ?_); · omega) | refine ev_bd rfl ?_ | refine ev_bd0 rfl ?_) | ((with_reducible refine eI ?_); first | ((with_reducible refine ev_idxn ?_ ?_ ?_); (· rfl); · omega) | (refine ev_idxon rfl rfl ?_ ?_; (· first | omega | (simp only [List.length_cons, List.length_nil, List.length_map, List.length_append]; omega))) | (refine ev_idxfn rfl rfl ?_ ?_; (focus omega)) | ((with_reducible refine ev_idx ?_ ?_ ?_); (· rfl); · omega) | (refine ev_idxo rfl rfl ?_ ?_; (· first | omega | (simp only [List.length_cons, List.length_nil, List.length_map, List.length_append]; omega))) | (refine ev_idxf rfl rfl ?_ ?_; (focus omega)) | refine ev_bd rfl ?_ | refine ev_bd0 rfl ?_) | ((with_reducible refine eC ?_); first | ((refine ev_callD (s_isName ..) rfl rfl ?_ rfl rfl ?_ ?_); (focus first | exact .inl rfl | exact .inr rfl | (refine .inr ?_; simp [flagC, ownF, hasSl3, hasSl1, SO.hasSl, List.all_map, flatSV, SV.cells, Function.comp_def]; done)); (all_goals (intro h)); (all_goals (try (exfalso; first | omega | exact h rfl | exact h ⟨rfl, rfl, rfl⟩)))) | ((refine ev_callD (s_isVer ..) rfl rfl ?_ rfl rfl ?_ ?_); (focus first | exact .inl rfl | exact .inr rfl | (refine .inr ?_; simp [flagC, ownF, hasSl3, hasSl1, SO.hasSl, List.all_map, flatSV, SV.cells, Function.comp_def]; done)); (all_goals (intro h)); (all_goals (try (exfalso; first | omega | exact h rfl | exact h ⟨rfl, rfl, rfl⟩))))) | ((with_reducible refine eK ?_); first | (with_reducible first | refine ev_ct ?_ | refine ev_cf ?_) | ((with_reducible refine ev_cond ?_ ?_) <;> intro h)) | ((with_reducible refine eO ?_); first | refine ev_bd rfl ?_ | (refine ev_bdB rfl ?_ ?_ <;> intro h <;> try (exfalso; simp_all; done)) | refine ev_bd0 rfl ?_ | (refine ev_ldm rfl ?_ rfl ?_; (focus omega)) | (refine ev_ldmB rfl ?_ rfl ?_ ?_; (focus omega); (all_goals intro h))) | ((with_reducible refine eD ?_); first | refine ev_bd rfl ?_ | refine ev_bd0 rfl ?_ | ((with_reducible refine ev_pickB ?_ ?_) <;> intro h)) | ((with_reducible refine eH ?_); first | refine ev_gcB rfl ?_) | (with_reducible first | refine UL70_10 ?_ | refine VL70_10 ?_) | ((with_reducible refine ih ?_ (all_step hp ?_) _ _ ?_) <;> (first | omega | assumption | ((unfold depAt; (try simp only [Int.toNat_natCast, tn_sub1, tn_add1] at *); omega)) | (simp only [*, List.map_append, List.length_append, List.length_cons, List.length_nil, List.map_cons, List.map_nil]; done) | (simp_all; done) | (simp_all; omega))) | refine ev_ret rfl ?_)
  all_goals first | exact ⟨congrArg bB (Eq.symm (all_true hp (by omega))), rfl⟩ | exact ⟨congrArg bB (Eq.symm (all_false (i := i) (by omega) (by unfold depAt; (try simp only [Int.toNat_natCast, tn_sub1, tn_add1] at *); omega))), rfl⟩ | trace_state
theorem s_PkgOkI_L4 (name ver : Int) (F : List TFile) (D : List TDep) (hF : F.length ≤ 2000000) (hD : D.length ≤ 2000000) : ∀ i, i ≤ F.length → (∀ j, j < i → fileAt F j) → ∀ (k : Int) (c : Nat), k = i →
    Ev (fun n => G70_4 (callF prg n) (n + 1) 0 (n + 1 - c) [.ptr 0 0, .sl 2 (F.map eFile), iI F.length, iI k] [.box [iI name, iI ver, .sl 2 (F.map eFile), .sl 2 (D.map eDep)]]) (Is (bB (filesAt F && depsAt name D)) []) := by
  refine up_ind ?_
  intro i hi ih hp k c hk
  subst hk
  (refine UG70_4 _ ?_; unfold GB70_4)
  repeat' (first | ((with_reducible refine eG ?_); first | (with_reducible first | refine ev_gtt ?_ | refine ev_gff ?_ | refine ev_gtf ?_ | refine ev_gft ?_ | refine ev_gu ?_) | refine ev_bd rfl ?_ | refine ev_bd0 rfl ?_ | ((with_reducible refine ev_gB ?_ ?_) <;> intro h)) | ((with_reducible refine eB ?_); first | ((with_reducible first | refine ev_lss ?_ ?_ | refine ev_leq ?_ ?_ | refine ev_gtr ?_ ?_) <;> intro h <;> try (exfalso; omega)) | ((with_reducible first | refine ev_add ?_ ?_ | refine ev_sub ?_ ?_); · omega) | refine ev_bd rfl ?_ | refine ev_bd0 rfl ?_) | ((with_reducible refine eL ?_); first | ((with_reducible refine ev_lenm ?_ ?_); · rfl) | refine ev_lenom rfl rfl ?_ | refine ev_lenfm rfl rfl ?_ | refine ev_lenoc rfl rfl rfl ?_ | refine ev_lenc rfl rfl ?_ | refine ev_leno rfl rfl ?_ | refine ev_slen rfl ?_ | refine ev_bd rfl ?_ | refine ev_bd0 rfl ?_) | ((with_reducible refine eI ?_); first | ((with_reducible refine ev_idxn ?_ ?_ ?_); (· rfl); · omega) | (refine ev_idxon rfl rfl ?_ ?_; (· first | omega | (simp only [List.length_cons, List.length_nil, List.length_map, List.length_append]; omega))) | (refine ev_idxfn rfl rfl ?_ ?_; (focus omega)) | ((with_reducible refine ev_idx ?_ ?_ ?_); (· rfl); · omega) | (refine ev_idxo rfl rfl ?_ ?_; (· first | omega | (simp only [List.length_cons, List.length_nil, List.length_map, List.length_append]; omega))) | (refine ev_idxf rfl rfl ?_ ?_; (focus omega)) | refine ev_bd rfl ?_ | refine ev_bd0 rfl ?_) | ((with_reducible refine eC ?_); first | ((refine ev_callD (s_in ..) rfl rfl ?_ rfl rfl ?_ ?_); (focus first | exact .inl rfl | exact .inr rfl | (refine .inr ?_; simp [flagC, ownF, hasSl3, hasSl1, SO.hasSl, List.all_map, flatSV, SV.cells, Function.comp_def]; done)); (all_goals (intro h)); (all_goals (try (exfalso; first | omega | exact h rfl | exact h ⟨rfl, rfl, rfl⟩))))) | ((with_reducible refine eK ?_); first | (with_reducible first | refine ev_ct ?_ | refine ev_cf ?_) | ((with_reducible refine ev_cond ?_ ?_) <;> intro h)) | ((with_reducible refine eO ?_); first | refine ev_bd rfl ?_ | (refine ev_bdB rfl ?_ ?_ <;> intro h <;> try (exfalso; simp_all; done)) | refine ev_bd0 rfl ?_ | (refine ev_ldm rfl ?_ rfl ?_; (focus omega)) | (refine ev_ldmB rfl ?_ rfl ?_ ?_; (focus omega); (all_goals intro h))) | ((with_reducible refine eD ?_); first | refine ev_bd rfl ?_ | refine ev_bd0 rfl ?_ | ((with_reducible refine ev_pickB ?_ ?_) <;> intro h)) | ((with_reducible refine eH ?_); first | refine ev_gcB rfl ?_) | (with_reducible first | refine UL70_4 ?_ | refine VL70_4 ?_) | (with_reducible first | refine UL70_10 ?_ | refine VL70_10 ?_) | ((with_reducible refine ih ?_ (all_step hp ?_) _ _ ?_) <;> (first | omega | assumption | ((unfold fileAt; (try simp only [Int.toNat_natCast, tn_sub1, tn_add1] at *); omega)) | (simp only [*, List.map_append, List.length_append, List.length_cons, List.length_nil, List.map_cons, List.map_nil]; done) | (simp_all; done) | (simp_all; omega))) | ( ((rw [show (filesAt F && depsAt name D) = depsAt name D by rw [show filesAt F = true from all_true hp (by omega), Bool.true_and]]); exact s_PkgOkI_L10 name ver F D hD 0 (by omega) (fun j hj => by omega) 0 _ rfl)) | refine ev_ret rfl ?_)
  all_goals first
    | (have hm : filesAt F = false := all_false (i := i) (by omega) (by unfold fileAt; (try simp only [Int.toNat_natCast, tn_sub1, tn_add1] at *); omega)
       exact ⟨congrArg bB (by simp [hm]), rfl⟩)
    | trace_state
theorem s_PkgOkI (name ver : Int) (F : List TFile) (D : List TDep) (hF : F.length ≤ 2000000) (hD : D.length ≤ 2000000) : Ex (fun m => callF prg m 70 [.ag [iI name, iI ver, .sl 2 (F.map eFile), .sl 2 (D.map eDep)]] []) (bB (pkgOk ⟨name, ver, F, D⟩)) [] := by
  refine ev_is.1 ?_
  (refine U70 (nl := 0) rfl ?_; unfold B70)
  repeat' (first | ((with_reducible refine eG ?_); first | (with_reducible first | refine ev_gtt ?_ | refine ev_gff ?_ | refine ev_gtf ?_ | refine ev_gft ?_ | refine ev_gu ?_) | refine ev_bd rfl ?_ | refine ev_bd0 rfl ?_ | ((with_reducible refine ev_gB ?_ ?_) <;> intro h)) | ((with_reducible refine eB ?_); first | ((with_reducible refine ev_gtr ?_ ?_) <;> intro h <;> try (exfalso; omega)) | refine ev_bd rfl ?_ | refine ev_bd0 rfl ?_) | ((with_reducible refine eL ?_); first | ((with_reducible refine ev_lenm ?_ ?_); · rfl) | refine ev_lenom rfl rfl ?_ | refine ev_lenfm rfl rfl ?_ | refine ev_lenoc rfl rfl rfl ?_ | refine ev_lenc rfl rfl ?_ | refine ev_leno rfl rfl ?_ | refine ev_slen rfl ?_ | refine ev_bd rfl ?_ | refine ev_bd0 rfl ?_) | ((with_reducible refine eC ?_); first | ((refine ev_callD (s_isName ..) rfl rfl ?_ rfl rfl ?_ ?_); (focus first | exact .inl rfl | exact .inr rfl | (refine .inr ?_; simp [flagC, ownF, hasSl3, hasSl1, SO.hasSl, List.all_map, flatSV, SV.cells, Function.comp_def]; done)); (all_goals (intro h)); (all_goals (try (exfalso; first | omega | exact h rfl | exact h ⟨rfl, rfl, rfl⟩)))) | ((refine ev_callD (s_isVer ..) rfl rfl ?_ rfl rfl ?_ ?_); (focus first | exact .inl rfl | exact .inr rfl | (refine .inr ?_; simp [flagC, ownF, hasSl3, hasSl1, SO.hasSl, List.all_map, flatSV, SV.cells, Function.comp_def]; done)); (all_goals (intro h)); (all_goals (try (exfalso; first | omega | exact h rfl | exact h ⟨rfl, rfl, rfl⟩))))) | ((with_reducible refine eK ?_); first | (with_reducible first | refine ev_ct ?_ | refine ev_cf ?_) | ((with_reducible refine ev_cond ?_ ?_) <;> intro h)) | ((with_reducible refine eO ?_); first | refine ev_bd rfl ?_ | (refine ev_bdB rfl ?_ ?_ <;> intro h <;> try (exfalso; simp_all; done)) | refine ev_bd0 rfl ?_ | (refine ev_ldm rfl ?_ rfl ?_; (focus omega)) | (refine ev_ldmB rfl ?_ rfl ?_ ?_; (focus omega); (all_goals intro h))) | ((with_reducible refine eD ?_); first | refine ev_bd rfl ?_ | refine ev_bd0 rfl ?_ | ((with_reducible refine ev_pickB ?_ ?_) <;> intro h)) | ((with_reducible refine eH ?_); first | refine ev_gcB rfl ?_) | (with_reducible first | refine UL70_4 ?_ | refine VL70_4 ?_) | ( ((rw [show pkgOk ⟨name, ver, F, D⟩ = (filesAt F && depsAt name D) by (simp only [pkgOk, filesOk, depsOk]; rw [decide_eq_true (by omega : 1 ≤ name ∧ name ≤ 4), decide_eq_true (by omega : 1 ≤ ver ∧ ver ≤ 5), decide_eq_true (by omega : F.length ≤ 2), decide_eq_true (by omega : D.length ≤ 2)]; simp)]); exact s_PkgOkI_L4 name ver F D hF hD 0 (by omega) (fun j hj => by omega) 0 1 rfl)) | refine ev_ret rfl ?_)
  all_goals (refine ⟨congrArg (fun b => SV.v (Value.bool b)) ?_, rfl⟩; first | (simp_all [pkgOk, filesOk, depsOk]; done) | (simp_all [pkgOk, filesOk, depsOk]; omega) | (simp [pkgOk, filesOk, depsOk] at *; omega) | (simp [pkgOk, filesOk, depsOk]; omega) | grind [pkgOk, filesOk, depsOk] | trace_state)
def cmpI (a b : Int) : Int := if a < b then -1 else if b < a then 1 else 0
theorem s_isNaN (a : Int) : Ex (fun m => callF prg m 88 [iI a] []) (bB false) [] := by
  refine ev_is.1 ?_
  (refine U88 (nl := 0) rfl ?_; unfold B88)
  repeat' (first | ((with_reducible refine eB ?_); first | ((with_reducible refine ev_neq ?_ ?_) <;> intro h <;> try (exfalso; omega)) | refine ev_bd rfl ?_ | refine ev_bd0 rfl ?_) | ((with_reducible refine eD ?_); first | refine ev_bd rfl ?_ | refine ev_bd0 rfl ?_) | refine ev_ret rfl ?_)
  all_goals first | exact ⟨rfl, rfl⟩ | (exfalso; omega) | trace_state
theorem s_Compare (a b : Int) : Ex (fun m => callF prg m 84 [iI a, iI b] []) (iI (cmpI a b)) [] := by
  refine ev_is.1 ?_
  (refine U84 (nl := 0) rfl ?_; unfold B84)
  repeat' (first | ((with_reducible refine eB ?_); first | ((with_reducible first | refine ev_lss ?_ ?_ | refine ev_gtr ?_ ?_) <;> intro h <;> try (exfalso; omega)) | refine ev_bd rfl ?_ | refine ev_bd0 rfl ?_) | ((with_reducible refine eC ?_); first | ((refine ev_call (s_isNaN ..) rfl rfl ?_ rfl ?_); (focus first | exact .inl rfl | exact .inr rfl | (refine .inr ?_; simp [flagC, ownF, hasSl3, hasSl1, SO.hasSl, List.all_map, flatSV, SV.cells, Function.comp_def]; done)))) | ((with_reducible refine eK ?_); first | (with_reducible first | refine ev_ct ?_ | refine ev_cf ?_) | ((with_reducible refine ev_cond ?_ ?_) <;> intro h)) | ((with_reducible refine eD ?_); first | refine ev_bd rfl ?_ | refine ev_bd0 rfl ?_) | refine ev_ret rfl ?_)
  all_goals exact ⟨congrArg iI (by unfold cmpI; repeat' split <;> omega), rfl⟩
theorem s_Or2 (a b : Int) : Ex (fun m => callF prg m 83 [.sl 1 [iI a, iI b]] []) (iI (if a ≠ 0 then a else b)) [] := by
  refine ev_is.1 ?_
  (refine U83 (nl := 0) rfl ?_; unfold B83)
  repeat' (first | ((with_reducible refine eB ?_); first | ((with_reducible first | refine ev_lss ?_ ?_ | refine ev_neq ?_ ?_) <;> intro h <;> try (exfalso; omega)) | ((with_reducible refine ev_add ?_ ?_); · omega) | refine ev_bd rfl ?_ | refine ev_bd0 rfl ?_) | ((with_reducible refine eL ?_); first | ((with_reducible refine ev_lenm ?_ ?_); · rfl) | refine ev_lenom rfl rfl ?_ | refine ev_lenfm rfl rfl ?_ | refine ev_lenoc rfl rfl rfl ?_ | refine ev_lenc rfl rfl ?_ | refine ev_leno rfl rfl ?_ | refine ev_slen rfl ?_ | refine ev_bd rfl ?_ | refine ev_bd0 rfl ?_) | ((with_reducible refine eI ?_); first | ((with_reducible refine ev_idxn ?_ ?_ ?_); (· rfl); · omega) | (refine ev_idxon rfl rfl ?_ ?_; (· first | omega | (simp only [List.length_cons, List.length_nil, List.length_map, List.length_append]; omega))) | (refine ev_idxfn rfl rfl ?_ ?_; (focus omega)) | ((with_reducible refine ev_idx ?_ ?_ ?_); (· rfl); · omega) | (refine ev_idxo rfl rfl ?_ ?_; (· first | omega | (simp only [List.length_cons, List.length_nil, List.length_map, List.length_append]; omega))) | (refine ev_idxf rfl rfl ?_ ?_; (focus omega)) | refine ev_bd rfl ?_ | refine ev_bd0 rfl ?_) | ((with_reducible refine eK ?_); first | (with_reducible first | refine ev_ct ?_ | refine ev_cf ?_) | ((with_reducible refine ev_cond ?_ ?_) <;> intro h)) | ((with_reducible refine eO ?_); first | refine ev_bd rfl ?_ | (refine ev_bdB rfl ?_ ?_ <;> intro h <;> try (exfalso; simp_all; done)) | refine ev_bd0 rfl ?_ | (refine ev_ldm rfl ?_ rfl ?_; (focus omega)) | (refine ev_ldmB rfl ?_ rfl ?_ ?_; (focus omega); (all_goals intro h))) | ((with_reducible refine eD ?_); first | refine ev_bd rfl ?_ | refine ev_bd0 rfl ?_) | ((with_reducible first | refine UL83_3 ?_ | refine VL83_3 ?_); (unfold LB83_3)) | refine ev_ret rfl ?_)
  all_goals first | exact ⟨congrArg iI (by split <;> omega), rfl⟩ | trace_state
theorem s_compare (n v : Int) (F : List TFile) (D : List TDep) (n' v' : Int) (F' : List TFile) (D' : List TDep) : ∃ z : Int, ((z < 0 ↔ (n < n' ∨ n = n' ∧ v < v')) ∧ (z = 0 ↔ (n = n' ∧ v = v'))) ∧
    Ex (fun m => callF prg m 71 [.ag [iI n, iI v, .sl 2 (F.map eFile), .sl 2 (D.map eDep)], .ag [iI n', iI v', .sl 2 (F'.map eFile), .sl 2 (D'.map eDep)]] []) (iI z) [] := by
  refine ⟨if cmpI n n' ≠ 0 then cmpI n n' else cmpI v v', ?_, ev_is.1 ?_⟩
  · unfold cmpI
    repeat' split
    all_goals omega
  · (refine U71 (nl := 0) rfl ?_; unfold B71)
    repeat' (first | ((with_reducible refine eC ?_); first | ((refine ev_call (s_Compare ..) rfl rfl ?_ rfl ?_); (focus first | exact .inl rfl | exact .inr rfl | (refine .inr ?_; simp [flagC, ownF, hasSl3, hasSl1, SO.hasSl, List.all_map, flatSV, SV.cells, Function.comp_def]; done))) | ((refine ev_call (s_Or2 ..) rfl rfl ?_ rfl ?_); (focus first | exact .inl rfl | exact .inr rfl | (refine .inr ?_; simp [flagC, ownF, hasSl3, hasSl1, SO.hasSl, List.all_map, flatSV, SV.cells, Function.comp_def]; done)))) | ((with_reducible refine eO ?_); first | refine ev_bd rfl ?_ | (refine ev_bdB rfl ?_ ?_ <;> intro h <;> try (exfalso; simp_all; done)) | refine ev_bd0 rfl ?_ | (refine ev_ldm rfl ?_ rfl ?_; (focus omega)) | (refine ev_ldmB rfl ?_ rfl ?_ ?_; (focus omega); (all_goals intro h)) | (refine ev_ldz rfl rfl rfl ?_ ?_ ?_; (· simp); (· first | omega | (simp only [List.length_cons, List.length_nil, List.length_map, List.length_append]; omega)); intro w)) | ((with_reducible refine eD ?_); first | refine ev_bd rfl ?_ | refine ev_bd0 rfl ?_) | ((with_reducible refine ev_dchk ?_ ?_); · intro _; rfl) | refine ev_ret rfl ?_)
    all_goals exact ⟨rfl, rfl⟩
theorem s_StoreOkI_L (s : List TPkg) (hs : s.length ≤ 2000000) (hp0 : PL s) : ∀ i, i ≤ s.length → (∀ j, j < i → pkgAt s j) → ∀ (k : Int) (c : Nat), k = i →
    Ev (fun n => G59_2 (callF prg n) (n + 1) 0 (n + 1 - c) [.sl 4 (s.map ePkg), .sl 4 (s.map ePkg), iI s.length, iI k] []) (Is (bB (storeOk s)) []) := by
  refine up_ind ?_
  intro i hi ih hp k c hk
  subst hk
  (refine UG59_2 _ ?_; unfold GB59_2)
  repeat' (first | ((with_reducible refine eG ?_); first | (with_reducible first | refine ev_gtt ?_ | refine ev_gff ?_ | refine ev_gtf ?_ | refine ev_gft ?_ | refine ev_gu ?_) | refine ev_bd rfl ?_ | refine ev_bd0 rfl ?_ | ((with_reducible refine ev_gB ?_ ?_) <;> intro h)) | ((with_reducible refine eB ?_); first | ((with_reducible first | refine ev_lss ?_ ?_ | refine ev_gtr ?_ ?_ | refine ev_geq ?_ ?_) <;> intro h <;> try (exfalso; omega)) | ((with_reducible first | refine ev_add ?_ ?_ | refine ev_sub ?_ ?_); · omega) | refine ev_bd rfl ?_ | refine ev_bd0 rfl ?_) | ((with_reducible refine eI ?_); first | ((with_reducible refine ev_idxn ?_ ?_ ?_); (· rfl); · omega) | (refine ev_idxon rfl rfl ?_ ?_; (· first | omega | (simp only [List.length_cons, List.length_nil, List.length_map, List.length_append]; omega))) | (refine ev_idxfn rfl rfl ?_ ?_; (focus omega)) | ((with_reducible refine ev_idx ?_ ?_ ?_); (· rfl); · omega) | (refine ev_idxo rfl rfl ?_ ?_; (· first | omega | (simp only [List.length_cons, List.length_nil, List.length_map, List.length_append]; omega))) | (refine ev_idxf rfl rfl ?_ ?_; (focus omega)) | refine ev_bd rfl ?_ | refine ev_bd0 rfl ?_) | ((with_reducible refine eC ?_); first | ((refine ev_callB (s_PkgOkI _ _ _ _ (hp0 _).1 (hp0 _).2) rfl rfl ?_ rfl rfl ?_ ?_); (focus first | exact .inl rfl | exact .inr rfl | (refine .inr ?_; simp [flagC, ownF, hasSl3, hasSl1, SO.hasSl, List.all_map, flatSV, SV.cells, Function.comp_def]; done)); (all_goals (intro h)); (all_goals (try (exfalso; simp_all; done)))) | ((refine ev_callN (s_compare _ _ _ _ _ _ _ _) rfl rfl ?_ (fun _ => rfl) ?_); (· first | exact .inl rfl | exact .inr (fun _ => rfl)); (first | (have q0 := z3; clear q0; intro z4 hz4) | (have q0 := z2; clear q0; intro z3 hz3) | (have q0 := z; clear q0; intro z2 hz2) | (intro z hz)))) | ((with_reducible refine eK ?_); first | (with_reducible first | refine ev_ct ?_ | refine ev_cf ?_) | ((with_reducible refine ev_cond ?_ ?_) <;> intro h)) | ((with_reducible refine eO ?_); first | refine ev_bd rfl ?_ | (refine ev_bdB rfl ?_ ?_ <;> intro h <;> try (exfalso; simp_all; done)) | refine ev_bd0 rfl ?_ | (refine ev_ldm rfl ?_ rfl ?_; (focus omega)) | (refine ev_ldmB rfl ?_ rfl ?_ ?_; (focus omega); (all_goals intro h))) | ((with_reducible refine eD ?_); first | refine ev_bd rfl ?_ | refine ev_bd0 rfl ?_ | ((with_reducible refine ev_pickB ?_ ?_) <;> intro h)) | ((with_reducible refine eH ?_); first | refine ev_gcB rfl ?_) | (with_reducible first | refine UL59_2 ?_ | refine VL59_2 ?_) | ((with_reducible refine ih ?_ (all_step hp ?_) _ _ ?_) <;> (first | omega | assumption | ((refine ⟨by assumption, fun hi0 => ?_⟩; unfold pless; (try simp only [Int.toNat_natCast, tn_sub1, tn_add1] at *); omega)) | (simp only [*, List.map_append, List.length_append, List.length_cons, List.length_nil, List.map_cons, List.map_nil]; done) | (simp_all; done) | (simp_all; omega))) | refine ev_ret rfl ?_)
  all_goals first
    | exact ⟨congrArg bB (Eq.symm (all_true hp (by omega))), rfl⟩
    | (refine ⟨congrArg bB (Eq.symm (all_false (i := i) (by omega) ?_)), rfl⟩; intro hh; have h1 := hh.2 (by omega); unfold pless at h1; (try simp only [Int.toNat_natCast, tn_sub1, tn_add1] at *); omega)
    | (refine ⟨congrArg bB (Eq.symm (all_false (i := i) (by omega) ?_)), rfl⟩; intro hh; have h1 := hh.1; exact Bool.noConfusion (h1.symm.trans h))
    | trace_state
theorem s_StoreOkI (s : List TPkg) (hs : s.length ≤ 2000000) (hp0 : PL s) : Ex (fun m => callF prg m 59 [.sl 4 (s.map ePkg)] []) (bB (storeOk s)) [] := by
  refine ev_is.1 ?_
  (refine U59 (nl := 0) rfl ?_; unfold B59)
  repeat' (first | ((with_reducible refine eL ?_); first | ((with_reducible refine ev_lenm ?_ ?_); · rfl) | refine ev_lenom rfl rfl ?_ | refine ev_lenfm rfl rfl ?_ | refine ev_lenoc rfl rfl rfl ?_ | refine ev_lenc rfl rfl ?_ | refine ev_leno rfl rfl ?_ | refine ev_slen rfl ?_ | refine ev_bd rfl ?_ | refine ev_bd0 rfl ?_) | ((with_reducible refine eD ?_); first | refine ev_bd rfl ?_ | refine ev_bd0 rfl ?_) | ((with_reducible refine eH ?_); first | refine ev_gcB rfl ?_) | (with_reducible first | refine UL59_2 ?_ | refine VL59_2 ?_) | ( exact s_StoreOkI_L s hs hp0 0 (by omega) (fun j hj => by omega) 0 1 rfl) | refine ev_ret rfl ?_)
theorem s_StoreOkS (s : List TPkg) (hs : s.length ≤ 2000000) (hp0 : PL s) : Ex (fun m => callF prg m 51 [.sl 4 (s.map ePkg)] []) (bB (storeOk s)) [] := by
  refine ev_is.1 ?_
  (refine U51 (nl := 0) rfl ?_; unfold B51)
  repeat' (first | ((with_reducible refine eC ?_); first | ((refine ev_call (s_l3Pkgs s hs hp0) rfl rfl ?_ rfl ?_); (focus first | exact .inl rfl | exact .inr rfl | (refine .inr ?_; simp [flagC, ownF, hasSl3, hasSl1, SO.hasSl, List.all_map, flatSV, SV.cells, Function.comp_def]; done)))) | ((with_reducible refine eD ?_); first | refine ev_bd rfl ?_ | refine ev_bd0 rfl ?_) | refine ev_ret rfl ?_)
  all_goals exact ⟨rfl, rfl⟩
def newTo (s : List TPkg) (name : Int) : Nat → Int
  | 0 => -1
  | i + 1 => if (nth s i).name = name then i else newTo s name i
theorem newTo_yes {s : List TPkg} {name : Int} {i : Nat} (h : (nth s i).name = name) : newTo s name (i + 1) = i := by rw [newTo, if_pos h]
theorem newTo_no {s : List TPkg} {name : Int} {i : Nat} (h : (nth s i).name ≠ name) : newTo s name (i + 1) = newTo s name i := by rw [newTo, if_neg h]
theorem newTo_spec (s : List TPkg) (name : Int) : ∀ i, (newTo s name i = -1 ∧ ∀ j, j < i → (nth s j).name ≠ name) ∨ (0 ≤ newTo s name i ∧ newTo s name i < i ∧ (nth s (newTo s name i).toNat).name = name ∧ ∀ j : Nat, newTo s name i < j → j < i → (nth s j).name ≠ name)
  | 0 => .inl ⟨rfl, fun j hj => by omega⟩
  | i + 1 => by
    by_cases e : (nth s i).name = name
    · rw [newTo_yes e]
      exact .inr ⟨by omega, by omega, by simpa using e, fun j h1 h2 => by omega⟩
    · rw [newTo_no e]
      rcases newTo_spec s name i with ⟨h1, h2⟩ | ⟨h1, h2, h3, h4⟩
      · refine .inl ⟨h1, fun j hj => ?_⟩
        by_cases ej : j = i
        · subst ej; exact e
        · exact h2 j (by omega)
      · refine .inr ⟨h1, by omega, h3, fun j hj hj2 => ?_⟩
        by_cases ej : j = i
        · subst ej; exact e
        · exact h4 j hj (by omega)
def newIx (s : List TPkg) (name : Int) : Int := newTo s name s.length
def zPkg : TPkg := ⟨0, 0, [], []⟩
def newestP (s : List TPkg) (name : Int) : TPkg × Bool := if 0 ≤ newIx s name then (nth s (newIx s name).toNat, true) else (zPkg, false)
def storeNewest (s : List TPkg) (name : Int) : TPkg × Bool := if storeOk s = true then newestP s name else (zPkg, false)
def QNew (r : TPkg × Bool) : SV → List SO → Prop := fun x os => ∃ p ok, r = (p, ok) ∧ x = .tup [rPkg p 0 1, bB ok] ∧ os = oPkg p
theorem s_CloneFile (l : List TFile) (h47 : l.length ≤ 2000000) : Ex (fun m => callF prg m 75 [.sl 2 (l.map eFile)] []) (.osl 0) [.arr false 2 (l.map eFile)] := by
  refine ⟨1, fun n hn => ?_⟩
  obtain ⟨n, rfl⟩ : ∃ m, n = m + 1 := ⟨n - 1, by omega⟩
  show callF prg (n + 1) _ _ _ = _
  rw [E75]
  simp only [cloneS, List.length_map]
  rw [if_pos ⟨.inr trivial, by omega, by omega⟩]
theorem s_CloneDep (l : List TDep) (h47 : l.length ≤ 2000000) : Ex (fun m => callF prg m 76 [.sl 2 (l.map eDep)] []) (.osl 0) [.arr false 2 (l.map eDep)] := by
  refine ⟨1, fun n hn => ?_⟩
  obtain ⟨n, rfl⟩ : ∃ m, n = m + 1 := ⟨n - 1, by omega⟩
  show callF prg (n + 1) _ _ _ = _
  rw [E76]
  simp only [cloneS, List.length_map]
  rw [if_pos ⟨.inr trivial, by omega, by omega⟩]
theorem s_copiedPkg (name ver : Int) (F : List TFile) (D : List TDep) (hF : F.length ≤ 2000000) (hD : D.length ≤ 2000000) : Ex (fun m => callF prg m 63 [.ag [iI name, iI ver, .sl 2 (F.map eFile), .sl 2 (D.map eDep)]] []) (rPkg ⟨name, ver, F, D⟩ 0 1) (oPkg ⟨name, ver, F, D⟩) := by
  refine ev_is.1 ?_
  (refine U63 (nl := 0) rfl ?_; unfold B63)
  repeat' (first | ((with_reducible refine eC ?_); first | ((refine ev_call (s_CloneFile _ hF) rfl rfl ?_ rfl ?_); (focus first | exact .inl rfl | exact .inr rfl | (refine .inr ?_; simp [flagC, ownF, hasSl3, hasSl1, SO.hasSl, List.all_map, flatSV, SV.cells, Function.comp_def]; done))) | ((refine ev_call (s_CloneDep _ hD) rfl rfl ?_ rfl ?_); (focus first | exact .inl rfl | exact .inr rfl | (refine .inr ?_; simp [flagC, ownF, hasSl3, hasSl1, SO.hasSl, List.all_map, flatSV, SV.cells, Function.comp_def]; done)))) | ((with_reducible refine eO ?_); first | refine ev_bd rfl ?_ | (refine ev_bdB rfl ?_ ?_ <;> intro h <;> try (exfalso; simp_all; done)) | refine ev_bd0 rfl ?_ | (refine ev_ldm rfl ?_ rfl ?_; (focus omega)) | (refine ev_ldmB rfl ?_ rfl ?_ ?_; (focus omega); (all_goals intro h))) | ((with_reducible refine eD ?_); first | refine ev_bd rfl ?_ | refine ev_bd0 rfl ?_) | ((with_reducible refine ev_dchk ?_ ?_); · intro _; rfl) | refine ev_ret rfl ?_)
  all_goals exact ⟨rfl, rfl⟩
theorem s_l12PkgCopy (name ver : Int) (F : List TFile) (D : List TDep) (hF : F.length ≤ 2000000) (hD : D.length ≤ 2000000) : Ex (fun m => callF prg m 55 [.ag [iI name, iI ver, .sl 2 (F.map eFile), .sl 2 (D.map eDep)]] []) (rPkg ⟨name, ver, F, D⟩ 0 1) (oPkg ⟨name, ver, F, D⟩) := by
  refine ev_is.1 ?_
  (refine U55 (nl := 0) rfl ?_; unfold B55)
  repeat' (first | ((with_reducible refine eA ?_); first | (refine ev_app rfl rfl rfl rfl rfl ?_ ?_; · first | decide | (simp only [List.length_append, List.length_cons, List.length_nil, List.length_map, List.length_take, List.length_drop]; omega))) | ((with_reducible refine eO ?_); first | refine ev_bd rfl ?_ | (refine ev_bdB rfl ?_ ?_ <;> intro h <;> try (exfalso; simp_all; done)) | refine ev_bd0 rfl ?_ | (refine ev_ldm rfl ?_ rfl ?_; (focus omega)) | (refine ev_ldmB rfl ?_ rfl ?_ ?_; (focus omega); (all_goals intro h)) | (refine ev_ldz rfl rfl rfl ?_ ?_ ?_; (· simp); (· first | omega | (simp only [List.length_cons, List.length_nil, List.length_map, List.length_append]; omega)); intro w)) | ((with_reducible refine eD ?_); first | refine ev_bd rfl ?_ | refine ev_bd0 rfl ?_) | refine ev_ret rfl ?_)
  all_goals exact ⟨rfl, rfl⟩
theorem s_l12Newest_L (s : List TPkg) (hs : s.length ≤ 2000000) (hp0 : PL s) (name : Int) : ∀ i, i ≤ s.length → newIx s name = newTo s name i → ∀ (k : Int) (c : Nat), k = i - 1 →
    Ev (fun n => G67_2 (callF prg n) (n + 1) 0 (n + 1 - c) [.sl 4 (s.map ePkg), iI name, .ptr 0 0, iI k] [.box [iI 0, iI 0, .osl 1, .osl 2], .arr false 2 [], .arr false 2 []]) (QNew (newestP s name)) := by
  intro i
  induction i with
  | zero =>
    intro hi hn k c hk
    subst hk
    (refine UG67_2 _ ?_; unfold GB67_2)
    repeat' (first | ((with_reducible refine eB ?_); first | ((with_reducible first | refine ev_geq ?_ ?_ | refine ev_eql ?_ ?_) <;> intro h <;> try (exfalso; omega)) | ((with_reducible refine ev_sub ?_ ?_); · omega) | refine ev_bd rfl ?_ | refine ev_bd0 rfl ?_) | ((with_reducible refine eI ?_); first | ((with_reducible refine ev_idxn ?_ ?_ ?_); (· rfl); · omega) | (refine ev_idxon rfl rfl ?_ ?_; (· first | omega | (simp only [List.length_cons, List.length_nil, List.length_map, List.length_append]; omega))) | (refine ev_idxfn rfl rfl ?_ ?_; (focus omega)) | ((with_reducible refine ev_idx ?_ ?_ ?_); (· rfl); · omega) | (refine ev_idxo rfl rfl ?_ ?_; (· first | omega | (simp only [List.length_cons, List.length_nil, List.length_map, List.length_append]; omega))) | (refine ev_idxf rfl rfl ?_ ?_; (focus omega)) | refine ev_bd rfl ?_ | refine ev_bd0 rfl ?_) | ((with_reducible refine eC ?_); first | fail) | ((with_reducible refine eK ?_); first | (with_reducible first | refine ev_ct ?_ | refine ev_cf ?_) | ((with_reducible refine ev_cond ?_ ?_) <;> intro h)) | ((with_reducible refine eO ?_); first | refine ev_bd rfl ?_ | (refine ev_bdB rfl ?_ ?_ <;> intro h <;> try (exfalso; simp_all; done)) | refine ev_bd0 rfl ?_ | (refine ev_ldm rfl ?_ rfl ?_; (focus omega)) | (refine ev_ldmB rfl ?_ rfl ?_ ?_; (focus omega); (all_goals intro h))) | ((with_reducible refine eD ?_); first | refine ev_bd rfl ?_ | refine ev_bd0 rfl ?_) | refine ev_ret rfl ?_)
    all_goals exact ⟨zPkg, false, by unfold newestP; rw [hn]; rfl, rfl, rfl⟩
  | succ i ih =>
    intro hi hn k c hk
    obtain rfl : k = i := by omega
    (refine UG67_2 _ ?_; unfold GB67_2)
    repeat' (first | ((with_reducible refine eB ?_); first | ((with_reducible first | refine ev_geq ?_ ?_ | refine ev_eql ?_ ?_) <;> intro h <;> try (exfalso; omega)) | ((with_reducible refine ev_sub ?_ ?_); · omega) | refine ev_bd rfl ?_ | refine ev_bd0 rfl ?_) | ((with_reducible refine eI ?_); first | ((with_reducible refine ev_idxn ?_ ?_ ?_); (· rfl); · omega) | (refine ev_idxon rfl rfl ?_ ?_; (· first | omega | (simp only [List.length_cons, List.length_nil, List.length_map, List.length_append]; omega))) | (refine ev_idxfn rfl rfl ?_ ?_; (focus omega)) | ((with_reducible refine ev_idx ?_ ?_ ?_); (· rfl); · omega) | (refine ev_idxo rfl rfl ?_ ?_; (· first | omega | (simp only [List.length_cons, List.length_nil, List.length_map, List.length_append]; omega))) | (refine ev_idxf rfl rfl ?_ ?_; (focus omega)) | refine ev_bd rfl ?_ | refine ev_bd0 rfl ?_) | ((with_reducible refine eC ?_); first | ((refine ev_call (s_l12PkgCopy _ _ _ _ (hp0 _).1 (hp0 _).2) rfl rfl ?_ rfl ?_); (focus first | exact .inl rfl | exact .inr rfl | (refine .inr ?_; simp [flagC, ownF, hasSl3, hasSl1, SO.hasSl, List.all_map, flatSV, SV.cells, Function.comp_def]; done)))) | ((with_reducible refine eK ?_); first | (with_reducible first | refine ev_ct ?_ | refine ev_cf ?_) | ((with_reducible refine ev_cond ?_ ?_) <;> intro h)) | ((with_reducible refine eO ?_); first | refine ev_bd rfl ?_ | (refine ev_bdB rfl ?_ ?_ <;> intro h <;> try (exfalso; simp_all; done)) | refine ev_bd0 rfl ?_ | (refine ev_ldm rfl ?_ rfl ?_; (focus omega)) | (refine ev_ldmB rfl ?_ rfl ?_ ?_; (focus omega); (all_goals intro h))) | ((with_reducible refine eD ?_); first | refine ev_bd rfl ?_ | refine ev_bd0 rfl ?_) | ((with_reducible refine eH ?_); first | refine ev_gcB rfl ?_) | (with_reducible first | refine UL67_2 ?_ | refine VL67_2 ?_) | ((with_reducible refine ih ?_ ?_ _ _ ?_) <;> (first | omega | assumption | ((rw [hn, newTo_no (by simpa using h)])) | (simp only [*, List.map_append, List.length_append, List.length_cons, List.length_nil, List.map_cons, List.map_nil]; done) | (simp_all; done) | (simp_all; omega))) | refine ev_ret rfl ?_)
    all_goals first
      | (refine ⟨nth s i, true, ?_, rfl, rfl⟩; rw [newTo_yes (by simpa using h)] at hn; unfold newestP; rw [hn, if_pos (by omega)]; rfl)
      | trace_state
theorem s_l12Newest (s : List TPkg) (hs : s.length ≤ 2000000) (hp0 : PL s) (name : Int) : Ev (fun m => callF prg m 67 [.sl 4 (s.map ePkg), iI name] []) (QNew (newestP s name)) := by
  (refine U67 (nl := 0) rfl ?_; unfold B67)
  repeat' (first | ((with_reducible refine eB ?_); first | ((with_reducible refine ev_sub ?_ ?_); · omega) | refine ev_bd rfl ?_ | refine ev_bd0 rfl ?_) | ((with_reducible refine eL ?_); first | ((with_reducible refine ev_lenm ?_ ?_); · rfl) | refine ev_lenom rfl rfl ?_ | refine ev_lenfm rfl rfl ?_ | refine ev_lenoc rfl rfl rfl ?_ | refine ev_lenc rfl rfl ?_ | refine ev_leno rfl rfl ?_ | refine ev_slen rfl ?_ | refine ev_bd rfl ?_ | refine ev_bd0 rfl ?_) | ((with_reducible refine eD ?_); first | refine ev_bd rfl ?_ | refine ev_bd0 rfl ?_) | ((with_reducible refine eH ?_); first | refine ev_gcB rfl ?_) | (with_reducible first | refine UL67_2 ?_ | refine VL67_2 ?_) | ( exact s_l12Newest_L s hs hp0 name s.length (by omega) rfl _ _ rfl) | refine ev_ret rfl ?_)
theorem TFile.eq2 {m n : TFile} (h : m.path = n.path ∧ m.data = n.data) : m = n := by cases m; cases n; simp_all
theorem TDep.eq2 {m n : TDep} (h : m.name = n.name ∧ m.least = n.least) : m = n := by cases m; cases n; simp_all
end Go.Proofs.Ytbagbhbplhkjaaa

/- Drawn packages, some of them spoilt. -/
namespace Go.Proofs.Ytbagbhbplhkjaaa
open Go
set_option linter.unusedVariables false
set_option linter.unusedSimpArgs false
set_option maxHeartbeats 40000000
def QOff (b : List Int) (p : Int) : SV → List SO → Prop := fun x os => ∃ (s : List TPkg) (q : Int), x = .osl 1 ∧ os = [rd b q, .arr false 4 (s.map ePkg)] ∧ s.length ≤ 9 ∧ smalls s ∧ p ≤ q ∧ q ≤ p + 400
end Go.Proofs.Ytbagbhbplhkjaaa

/- What holds of the newest in a store. -/
namespace Go.Proofs.Ytbagbhbplhkjaaa
open Go
set_option linter.unusedVariables false
set_option linter.unusedSimpArgs false
theorem storeOk_iff {s : List TPkg} : storeOk s = true ↔ ∀ i, i < s.length → pkgAt s i := by simp [storeOk]
theorem store_grow {s : List TPkg} (h : storeOk s = true) : ∀ j i, i < j → j < s.length → pless (nth s i) (nth s j) := by
  intro j
  induction j with
  | zero => intro i hi; omega
  | succ j ih =>
    intro i hi hj
    have h1 := (storeOk_iff.1 h (j + 1) hj).2 (by omega)
    simp only [Nat.add_sub_cancel] at h1
    by_cases e : i = j
    · subst e; exact h1
    · have := ih i (by omega) (by omega)
      unfold pless at *; omega
theorem newest_true {s : List TPkg} {name : Int} {p : TPkg} (h : newestP s name = (p, true)) : p ∈ s ∧ p.name = name ∧ ∃ j, j < s.length ∧ p = nth s j ∧ ∀ i, j < i → i < s.length → (nth s i).name ≠ name := by
  unfold newestP at h
  split at h
  · rename_i h0
    obtain ⟨rfl, -⟩ := Prod.mk.inj h
    rcases newTo_spec s name s.length with ⟨h1, h2⟩ | ⟨h1, h2, h3, h4⟩
    · unfold newIx at h0; omega
    · have hlt : (newIx s name).toNat < s.length := by unfold newIx; omega
      refine ⟨nth_mem hlt, h3, _, hlt, rfl, fun i hi hi2 => h4 i ?_ hi2⟩
      unfold newIx at hi; omega
  · cases h
theorem newest_false {s : List TPkg} {name : Int} {p : TPkg} (h : newestP s name = (p, false)) : p = zPkg ∧ ∀ x, x ∈ s → x.name ≠ name := by
  unfold newestP at h
  split at h
  · cases h
  · rename_i h0
    obtain ⟨rfl, -⟩ := Prod.mk.inj h
    refine ⟨rfl, fun x hx => ?_⟩
    rcases newTo_spec s name s.length with ⟨h1, h2⟩ | ⟨h1, h2, h3, h4⟩
    · obtain ⟨j, hj, rfl⟩ := mem_nth hx
      exact h2 j hj
    · exact absurd h1 h0
theorem store_max {s : List TPkg} {name : Int} {p : TPkg} (hs : storeOk s = true) (h : newestP s name = (p, true)) {x : TPkg} (hx : x ∈ s) (hn : x.name = name) : x = p ∨ x.ver < p.ver := by
  obtain ⟨h1, h2, j, hj, rfl, h3⟩ := newest_true h
  obtain ⟨i, hi, rfl⟩ := mem_nth hx
  by_cases e : i = j
  · subst e; exact .inl rfl
  · have : i < j := by
      by_cases e2 : j < i
      · exact absurd hn (h3 i e2 hi)
      · omega
    have := store_grow hs j i this hj
    unfold pless at this
    right; omega
end Go.Proofs.Ytbagbhbplhkjaaa

/- Packages that can be in together. -/
namespace Go.Proofs.Ytbagbhbplhkjaaa
open Go
set_option linter.unusedVariables false
set_option linter.unusedSimpArgs false
set_option maxHeartbeats 4000000
def bearsP (s : List TPkg) (dn dl : Int) : Prop := ∃ p, p ∈ s ∧ (p.name = dn ∧ dl ≤ p.ver)
instance (s : List TPkg) (dn dl : Int) : Decidable (bearsP s dn dl) := by unfold bearsP; exact inferInstance
def ownedTo (s : List TPkg) (n : Nat) (x : Int) : Prop := ∃ j, j < n ∧ ∃ f, f ∈ (nth s j).files ∧ f.path = x
instance (s : List TPkg) (n : Nat) (x : Int) : Decidable (ownedTo s n x) := by unfold ownedTo; exact inferInstance
def depsAtP (s : List TPkg) (i : Nat) : Prop := ∀ j, j < (nth s i).deps.length → bearsP s (nth (nth s i).deps j).name (nth (nth s i).deps j).least
instance (s : List TPkg) (i : Nat) : Decidable (depsAtP s i) := by unfold depsAtP; exact inferInstance
def filesAtP (s : List TPkg) (i : Nat) : Prop := ∀ j, j < (nth s i).files.length → ¬ ownedTo s i (nth (nth s i).files j).path
instance (s : List TPkg) (i : Nat) : Decidable (filesAtP s i) := by unfold filesAtP; exact inferInstance
def oneAt (s : List TPkg) (i : Nat) : Prop := 0 < i → (nth s (i - 1)).name < (nth s i).name
instance (s : List TPkg) (i : Nat) : Decidable (oneAt s i) := by unfold oneAt; exact inferInstance
def oneOk (s : List TPkg) : Bool := decide (∀ i, i < s.length → oneAt s i)
def planAt (s : List TPkg) (i : Nat) : Prop := oneAt s i ∧ depsAtP s i ∧ filesAtP s i
instance (s : List TPkg) (i : Nat) : Decidable (planAt s i) := by unfold planAt; exact inferInstance
def plansAt (s : List TPkg) : Bool := decide (∀ i, i < s.length → planAt s i)
def planOk (s : List TPkg) : Bool := storeOk s && plansAt s
theorem bears_newest {s : List TPkg} (hs : storeOk s = true) {dn dl : Int} {p : TPkg} {ok : Bool} (h : newestP s dn = (p, ok)) : bearsP s dn dl ↔ ok = true ∧ dl ≤ p.ver := by
  cases ok with
  | true =>
    obtain ⟨h1, h2, -⟩ := newest_true h
    constructor
    · rintro ⟨q, hq, e1, e2⟩
      rcases store_max hs h hq e1 with rfl | e3
      · exact ⟨rfl, e2⟩
      · exact ⟨rfl, by omega⟩
    · rintro ⟨-, e⟩; exact ⟨p, h1, h2, e⟩
  | false =>
    obtain ⟨-, h2⟩ := newest_false h
    constructor
    · rintro ⟨q, hq, e1, -⟩; exact absurd e1 (h2 q hq)
    · rintro ⟨e, -⟩; cases e
theorem s_l13Meets (s : List TPkg) (hs : s.length ≤ 2000000) (hp0 : PL s) (hok : storeOk s = true) (dn dl : Int) : Ex (fun m => callF prg m 53 [.sl 4 (s.map ePkg), .ag [iI dn, iI dl]] []) (bB (decide (bearsP s dn dl))) [] := by
  refine ev_is.1 ?_
  (refine U53 (nl := 0) rfl ?_; unfold B53)
  repeat' (first | ((with_reducible refine eG ?_); first | (with_reducible first | refine ev_gtt ?_ | refine ev_gff ?_ | refine ev_gtf ?_ | refine ev_gft ?_ | refine ev_gu ?_) | refine ev_bd rfl ?_ | refine ev_bd0 rfl ?_ | ((with_reducible refine ev_gB ?_ ?_) <;> intro h)) | ((with_reducible refine eB ?_); first | ((with_reducible refine ev_geq ?_ ?_) <;> intro h <;> try (exfalso; omega)) | refine ev_bd rfl ?_ | refine ev_bd0 rfl ?_) | ((with_reducible refine eC ?_); first | ((refine ev_callE (s_l12Newest s hs hp0 dn) rfl rfl ?_); ((rintro _ _ ⟨p, ok, h1, rfl, rfl⟩) <;> (((have hb := bears_newest (dl := dl) hok h1); (rcases ok with _ | _))) <;> (first | (refine ev_post ?_ rfl ?_; (focus first | exact .inl rfl | exact .inr rfl | (refine .inr ?_; simp [flagC, ownF, hasSl3, hasSl1, SO.hasSl, List.all_map, flatSV, SV.cells, Function.comp_def]; done))) | (refine ev_postF ?_ rfl ?_; (focus first | rfl | (simp [flagC, ownF, hasSl3, hasSl1, SO.hasSl, List.all_map, flatSV, SV.cells, Function.comp_def]; done))))))) | ((with_reducible refine eO ?_); first | refine ev_bd rfl ?_ | (refine ev_bdB rfl ?_ ?_ <;> intro h <;> try (exfalso; simp_all; done)) | refine ev_bd0 rfl ?_ | (refine ev_ldm rfl ?_ rfl ?_; (focus omega)) | (refine ev_ldmB rfl ?_ rfl ?_ ?_; (focus omega); (all_goals intro h))) | ((with_reducible refine eD ?_); first | refine ev_bd rfl ?_ | refine ev_bd0 rfl ?_ | ((with_reducible refine ev_pickB ?_ ?_) <;> intro h)) | refine ev_ret rfl ?_)
  all_goals exact ⟨congrArg bB (by simp [hb, *]), rfl⟩
theorem s_l13One_L (s : List TPkg) (hs : s.length ≤ 2000000) : ∀ i, i ≤ s.length + 1 → 1 ≤ i → (∀ j, j < i → oneAt s j) → ∀ (k : Int) (c : Nat), k = i →
    Ev (fun n => L52_2 (callF prg n) (n + 1) 0 (n + 1 - c) (.sl 4 (s.map ePkg)) (iI k) []) (Is (bB (oneOk s)) []) := by
  refine up_ind ?_
  intro i hi ih h1 hp k c hk
  subst hk
  (refine UL52_2 ?_; unfold LB52_2)
  repeat' (first | ((with_reducible refine eB ?_); first | ((with_reducible first | refine ev_lss ?_ ?_ | refine ev_geq ?_ ?_) <;> intro h <;> try (exfalso; omega)) | ((with_reducible first | refine ev_add ?_ ?_ | refine ev_sub ?_ ?_); · omega) | refine ev_bd rfl ?_ | refine ev_bd0 rfl ?_) | ((with_reducible refine eL ?_); first | ((with_reducible refine ev_lenm ?_ ?_); · rfl) | refine ev_lenom rfl rfl ?_ | refine ev_lenfm rfl rfl ?_ | refine ev_lenoc rfl rfl rfl ?_ | refine ev_lenc rfl rfl ?_ | refine ev_leno rfl rfl ?_ | refine ev_slen rfl ?_ | refine ev_bd rfl ?_ | refine ev_bd0 rfl ?_) | ((with_reducible refine eI ?_); first | ((with_reducible refine ev_idxn ?_ ?_ ?_); (· rfl); · omega) | (refine ev_idxon rfl rfl ?_ ?_; (· first | omega | (simp only [List.length_cons, List.length_nil, List.length_map, List.length_append]; omega))) | (refine ev_idxfn rfl rfl ?_ ?_; (focus omega)) | ((with_reducible refine ev_idx ?_ ?_ ?_); (· rfl); · omega) | (refine ev_idxo rfl rfl ?_ ?_; (· first | omega | (simp only [List.length_cons, List.length_nil, List.length_map, List.length_append]; omega))) | (refine ev_idxf rfl rfl ?_ ?_; (focus omega)) | refine ev_bd rfl ?_ | refine ev_bd0 rfl ?_) | ((with_reducible refine eK ?_); first | (with_reducible first | refine ev_ct ?_ | refine ev_cf ?_) | ((with_reducible refine ev_cond ?_ ?_) <;> intro h)) | ((with_reducible refine eO ?_); first | refine ev_bd rfl ?_ | (refine ev_bdB rfl ?_ ?_ <;> intro h <;> try (exfalso; simp_all; done)) | refine ev_bd0 rfl ?_ | (refine ev_ldm rfl ?_ rfl ?_; (focus omega)) | (refine ev_ldmB rfl ?_ rfl ?_ ?_; (focus omega); (all_goals intro h))) | ((with_reducible refine eD ?_); first | refine ev_bd rfl ?_ | refine ev_bd0 rfl ?_) | ((with_reducible refine ih ?_ ?_ (all_step hp ?_) _ _ ?_) <;> (first | omega | assumption | ((unfold oneAt; (try simp only [Int.toNat_natCast, tn_sub1, tn_add1] at *); omega)) | (simp only [*, List.map_append, List.length_append, List.length_cons, List.length_nil, List.map_cons, List.map_nil]; done) | (simp_all; done) | (simp_all; omega))) | refine ev_ret rfl ?_)
  all_goals first | exact ⟨congrArg bB (Eq.symm (all_true hp (by omega))), rfl⟩ | exact ⟨congrArg bB (Eq.symm (all_false (i := i) (by omega) (by unfold oneAt; (try simp only [Int.toNat_natCast, tn_sub1, tn_add1] at *); omega))), rfl⟩ | trace_state
theorem s_l13One (s : List TPkg) (hs : s.length ≤ 2000000) : Ex (fun m => callF prg m 52 [.sl 4 (s.map ePkg)] []) (bB (oneOk s)) [] := by
  refine ev_is.1 ?_
  (refine U52 (nl := 0) rfl ?_; unfold B52)
  exact s_l13One_L s hs 1 (by omega) (by omega) (fun j hj h0 => by omega) 1 0 rfl
theorem owned_step {s : List TPkg} {i : Nat} {x : Int} : ownedTo s (i + 1) x ↔ ownedTo s i x ∨ ∃ f, f ∈ (nth s i).files ∧ f.path = x := by
  unfold ownedTo
  constructor
  · rintro ⟨j, hj, h⟩
    by_cases e : j = i
    · subst e; exact .inr h
    · exact .inl ⟨j, by omega, h⟩
  · rintro (⟨j, hj, h⟩ | h)
    · exact ⟨j, by omega, h⟩
    · exact ⟨i, by omega, h⟩
def QOwn (s : List TPkg) (b : Nat) (x : Int) : SV → List SO → Prop := fun y os => ∃ z : Int, y = iI z ∧ os = [] ∧ (0 ≤ z ↔ ownedTo s b x)
theorem s_l13Owner_L5 (s : List TPkg) (hs : s.length ≤ 2000000) (hp0 : PL s) (b : Nat) (hb : b ≤ s.length) (x : Int) (m2 : Nat → Nat) (i : Nat) (hi : i < b)
    (hq : (∀ f, f ∈ (nth s i).files → f.path ≠ x) → Ev (fun n => L54_2 (callF prg n) (n + 1) 0 (m2 n) (.sl 4 (s.map ePkg)) (iI b) (iI x) (iI ((i : Int) + 1)) []) (QOwn s b x)) : ∀ j, j ≤ (nth s i).files.length → (∀ k, k < j → (nth (nth s i).files k).path ≠ x) → ∀ (k : Int) (c : Nat), k = j →
    Ev (fun n => L54_5 (callF prg n) (n + 1) 0 (m2 n) (n + 1 - c) (.sl 4 (s.map ePkg)) (iI b) (iI x) (iI i) (iI k) []) (QOwn s b x) := by
  have hpi := hp0 i
  refine up_ind ?_
  intro j hj ih hp k c hk
  subst hk
  (refine UL54_5 ?_; unfold LB54_5)
  repeat' (first | ((with_reducible refine eB ?_); first | ((with_reducible first | refine ev_lss ?_ ?_ | refine ev_eql ?_ ?_) <;> intro h <;> try (exfalso; omega)) | ((with_reducible refine ev_add ?_ ?_); · omega) | refine ev_bd rfl ?_ | refine ev_bd0 rfl ?_) | ((with_reducible refine eL ?_); first | ((with_reducible refine ev_lenm ?_ ?_); · rfl) | refine ev_lenom rfl rfl ?_ | refine ev_lenfm rfl rfl ?_ | refine ev_lenoc rfl rfl rfl ?_ | refine ev_lenc rfl rfl ?_ | refine ev_leno rfl rfl ?_ | refine ev_slen rfl ?_ | refine ev_bd rfl ?_ | refine ev_bd0 rfl ?_) | ((with_reducible refine eI ?_); first | ((with_reducible refine ev_idxn ?_ ?_ ?_); (· rfl); · omega) | (refine ev_idxon rfl rfl ?_ ?_; (· first | omega | (simp only [List.length_cons, List.length_nil, List.length_map, List.length_append]; omega))) | (refine ev_idxfn rfl rfl ?_ ?_; (focus omega)) | ((with_reducible refine ev_idx ?_ ?_ ?_); (· rfl); · omega) | (refine ev_idxo rfl rfl ?_ ?_; (· first | omega | (simp only [List.length_cons, List.length_nil, List.length_map, List.length_append]; omega))) | (refine ev_idxf rfl rfl ?_ ?_; (focus omega)) | refine ev_bd rfl ?_ | refine ev_bd0 rfl ?_) | ((with_reducible refine eK ?_); first | (with_reducible first | refine ev_ct ?_ | refine ev_cf ?_) | ((with_reducible refine ev_cond ?_ ?_) <;> intro h)) | ((with_reducible refine eO ?_); first | refine ev_bd rfl ?_ | (refine ev_bdB rfl ?_ ?_ <;> intro h <;> try (exfalso; simp_all; done)) | refine ev_bd0 rfl ?_ | (refine ev_ldm rfl ?_ rfl ?_; (focus omega)) | (refine ev_ldmB rfl ?_ rfl ?_ ?_; (focus omega); (all_goals intro h))) | ((with_reducible refine eD ?_); first | refine ev_bd rfl ?_ | refine ev_bd0 rfl ?_) | ((with_reducible refine ih ?_ (all_step hp ?_) _ _ ?_) <;> (first | omega | assumption | (simp only [*, List.map_append, List.length_append, List.length_cons, List.length_nil, List.map_cons, List.map_nil]; done) | (simp_all; done) | (simp_all; omega))) | ( exact hq fun f hf => by (obtain ⟨y, hy, rfl⟩ := mem_nth hf; exact hp y (by omega))) | refine ev_ret rfl ?_)
  all_goals (refine ⟨_, rfl, rfl, ⟨fun _ => ⟨i, hi, _, nth_mem (l := (nth s i).files) (k := j) (by omega), by simpa using h⟩, fun _ => by omega⟩⟩)
theorem s_l13Owner_L2 (s : List TPkg) (hs : s.length ≤ 2000000) (hp0 : PL s) (b : Nat) (hb : b ≤ s.length) (x : Int) : ∀ i, i ≤ b → ¬ ownedTo s i x → ∀ (k : Int) (c : Nat), k = i →
    Ev (fun n => L54_2 (callF prg n) (n + 1) 0 (n + 1 - c) (.sl 4 (s.map ePkg)) (iI b) (iI x) (iI k) []) (QOwn s b x) := by
  refine up_ind ?_
  intro i hi ih hp k c hk
  subst hk
  (refine UL54_2 ?_; unfold LB54_2)
  repeat' (first | ((with_reducible refine eB ?_); first | ((with_reducible refine ev_lss ?_ ?_) <;> intro h <;> try (exfalso; omega)) | refine ev_bd rfl ?_ | refine ev_bd0 rfl ?_) | ((with_reducible refine eK ?_); first | (with_reducible first | refine ev_ct ?_ | refine ev_cf ?_) | ((with_reducible refine ev_cond ?_ ?_) <;> intro h)) | ((with_reducible refine eD ?_); first | refine ev_bd rfl ?_ | refine ev_bd0 rfl ?_) | ( exact s_l13Owner_L5 s hs hp0 b hb x _ i (by omega) (fun hf => ih (by omega) (by (rw [owned_step]; rintro (h1 | ⟨f, h1, h2⟩); exact hp h1; exact hf f h1 h2)) _ _ rfl) 0 (by omega) (fun k hk => by omega) 0 0 rfl) | refine ev_ret rfl ?_)
  obtain rfl : i = b := by omega
  exact ⟨_, rfl, rfl, ⟨fun h => by omega, fun h => absurd h hp⟩⟩
theorem s_l13Owner (s : List TPkg) (hs : s.length ≤ 2000000) (hp0 : PL s) (b : Nat) (hb : b ≤ s.length) (x : Int) : ∃ z : Int, (0 ≤ z ↔ ownedTo s b x) ∧ Ex (fun m => callF prg m 54 [.sl 4 (s.map ePkg), iI b, iI x] []) (iI z) [] := by
  have key : Ev (fun m => callF prg m 54 [.sl 4 (s.map ePkg), iI b, iI x] []) (QOwn s b x) := by
    (refine U54 (nl := 0) rfl ?_; unfold B54)
    exact s_l13Owner_L2 s hs hp0 b hb x 0 (by omega) (by rintro ⟨j, hj, -⟩; omega) 0 0 rfl
  obtain ⟨_, _, ⟨z, rfl, rfl, hz⟩, he⟩ := key
  exact ⟨z, hz, he⟩
theorem s_PlanOkS_L12 (s : List TPkg) (hs : s.length ≤ 2000000) (hp0 : PL s) {Q : SV → List SO → Prop} (m4 : Nat → Nat) (i : Nat) (hi : i < s.length)
    (hq : filesAtP s i → Ev (fun n => L35_4 (callF prg n) (n + 1) 0 (m4 n) (.sl 4 (s.map ePkg)) (iI ((i : Int) + 1)) []) Q) (hn : ¬ filesAtP s i → Q (bB false) []) : ∀ j, j ≤ (nth s i).files.length → (∀ k, k < j → ¬ ownedTo s i (nth (nth s i).files k).path) → ∀ (k : Int) (c : Nat), k = j →
    Ev (fun n => L35_12 (callF prg n) (n + 1) 0 (m4 n) (n + 1 - c) (.sl 4 (s.map ePkg)) (iI i) (iI k) []) Q := by
  have hpi := hp0 i
  refine up_ind ?_
  intro j hj ih hp k c hk
  subst hk
  (refine UL35_12 ?_; unfold LB35_12)
  repeat' (first | ((with_reducible refine eB ?_); first | ((with_reducible first | refine ev_lss ?_ ?_ | refine ev_geq ?_ ?_) <;> intro h <;> try (exfalso; omega)) | ((with_reducible refine ev_add ?_ ?_); · omega) | refine ev_bd rfl ?_ | refine ev_bd0 rfl ?_) | ((with_reducible refine eL ?_); first | ((with_reducible refine ev_lenm ?_ ?_); · rfl) | refine ev_lenom rfl rfl ?_ | refine ev_lenfm rfl rfl ?_ | refine ev_lenoc rfl rfl rfl ?_ | refine ev_lenc rfl rfl ?_ | refine ev_leno rfl rfl ?_ | refine ev_slen rfl ?_ | refine ev_bd rfl ?_ | refine ev_bd0 rfl ?_) | ((with_reducible refine eI ?_); first | ((with_reducible refine ev_idxn ?_ ?_ ?_); (· rfl); · omega) | (refine ev_idxon rfl rfl ?_ ?_; (· first | omega | (simp only [List.length_cons, List.length_nil, List.length_map, List.length_append]; omega))) | (refine ev_idxfn rfl rfl ?_ ?_; (focus omega)) | ((with_reducible refine ev_idx ?_ ?_ ?_); (· rfl); · omega) | (refine ev_idxo rfl rfl ?_ ?_; (· first | omega | (simp only [List.length_cons, List.length_nil, List.length_map, List.length_append]; omega))) | (refine ev_idxf rfl rfl ?_ ?_; (focus omega)) | refine ev_bd rfl ?_ | refine ev_bd0 rfl ?_) | ((with_reducible refine eC ?_); first | ((refine ev_callN (s_l13Owner s hs hp0 i (by omega) _) rfl rfl ?_ (fun _ => rfl) ?_); (· first | exact .inl rfl | exact .inr (fun _ => rfl)); (first | (have q0 := z3; clear q0; intro z4 hz4) | (have q0 := z2; clear q0; intro z3 hz3) | (have q0 := z; clear q0; intro z2 hz2) | (intro z hz)))) | ((with_reducible refine eK ?_); first | (with_reducible first | refine ev_ct ?_ | refine ev_cf ?_) | ((with_reducible refine ev_cond ?_ ?_) <;> intro h)) | ((with_reducible refine eO ?_); first | refine ev_bd rfl ?_ | (refine ev_bdB rfl ?_ ?_ <;> intro h <;> try (exfalso; simp_all; done)) | refine ev_bd0 rfl ?_ | (refine ev_ldm rfl ?_ rfl ?_; (focus omega)) | (refine ev_ldmB rfl ?_ rfl ?_ ?_; (focus omega); (all_goals intro h))) | ((with_reducible refine eD ?_); first | refine ev_bd rfl ?_ | refine ev_bd0 rfl ?_) | ((with_reducible refine ih ?_ (all_step hp ?_) _ _ ?_) <;> (first | omega | assumption | ((intro h9; have := hz.2 h9; omega)) | (simp only [*, List.map_append, List.length_append, List.length_cons, List.length_nil, List.map_cons, List.map_nil]; done) | (simp_all; done) | (simp_all; omega))) | ( exact hq fun y hy => hp y (by omega)) | refine ev_ret rfl ?_)
  all_goals (refine hn fun h9 => h9 j (by omega) ?_; exact hz.1 (by omega))
theorem s_PlanOkS_L7 (s : List TPkg) (hs : s.length ≤ 2000000) (hp0 : PL s) (hok : storeOk s = true) {Q : SV → List SO → Prop} (m4 : Nat → Nat) (i : Nat) (hi : i < s.length)
    (hq : depsAtP s i → filesAtP s i → Ev (fun n => L35_4 (callF prg n) (n + 1) 0 (m4 n) (.sl 4 (s.map ePkg)) (iI ((i : Int) + 1)) []) Q) (hn : ¬ (depsAtP s i ∧ filesAtP s i) → Q (bB false) []) : ∀ j, j ≤ (nth s i).deps.length → (∀ k, k < j → bearsP s (nth (nth s i).deps k).name (nth (nth s i).deps k).least) → ∀ (k : Int) (c : Nat), k = j →
    Ev (fun n => L35_7 (callF prg n) (n + 1) 0 (m4 n) (n + 1 - c) (.sl 4 (s.map ePkg)) (iI i) (iI k) []) Q := by
  have hpi := hp0 i
  refine up_ind ?_
  intro j hj ih hp k c hk
  subst hk
  (refine UL35_7 ?_; unfold LB35_7)
  repeat' (first | ((with_reducible refine eB ?_); first | ((with_reducible refine ev_lss ?_ ?_) <;> intro h <;> try (exfalso; omega)) | ((with_reducible refine ev_add ?_ ?_); · omega) | refine ev_bd rfl ?_ | refine ev_bd0 rfl ?_) | ((with_reducible refine eL ?_); first | ((with_reducible refine ev_lenm ?_ ?_); · rfl) | refine ev_lenom rfl rfl ?_ | refine ev_lenfm rfl rfl ?_ | refine ev_lenoc rfl rfl rfl ?_ | refine ev_lenc rfl rfl ?_ | refine ev_leno rfl rfl ?_ | refine ev_slen rfl ?_ | refine ev_bd rfl ?_ | refine ev_bd0 rfl ?_) | ((with_reducible refine eI ?_); first | ((with_reducible refine ev_idxn ?_ ?_ ?_); (· rfl); · omega) | (refine ev_idxon rfl rfl ?_ ?_; (· first | omega | (simp only [List.length_cons, List.length_nil, List.length_map, List.length_append]; omega))) | (refine ev_idxfn rfl rfl ?_ ?_; (focus omega)) | ((with_reducible refine ev_idx ?_ ?_ ?_); (· rfl); · omega) | (refine ev_idxo rfl rfl ?_ ?_; (· first | omega | (simp only [List.length_cons, List.length_nil, List.length_map, List.length_append]; omega))) | (refine ev_idxf rfl rfl ?_ ?_; (focus omega)) | refine ev_bd rfl ?_ | refine ev_bd0 rfl ?_) | ((with_reducible refine eC ?_); first | ((refine ev_callD (s_l13Meets s hs hp0 hok _ _) rfl rfl ?_ rfl rfl ?_ ?_); (focus first | exact .inl rfl | exact .inr rfl | (refine .inr ?_; simp [flagC, ownF, hasSl3, hasSl1, SO.hasSl, List.all_map, flatSV, SV.cells, Function.comp_def]; done)); (all_goals (intro h)); (all_goals (try (exfalso; first | omega | exact h rfl | exact h ⟨rfl, rfl, rfl⟩))))) | ((with_reducible refine eK ?_); first | (with_reducible first | refine ev_ct ?_ | refine ev_cf ?_) | ((with_reducible refine ev_cond ?_ ?_) <;> intro h)) | ((with_reducible refine eO ?_); first | refine ev_bd rfl ?_ | (refine ev_bdB rfl ?_ ?_ <;> intro h <;> try (exfalso; simp_all; done)) | refine ev_bd0 rfl ?_ | (refine ev_ldm rfl ?_ rfl ?_; (focus omega)) | (refine ev_ldmB rfl ?_ rfl ?_ ?_; (focus omega); (all_goals intro h))) | ((with_reducible refine eD ?_); first | refine ev_bd rfl ?_ | refine ev_bd0 rfl ?_) | ((with_reducible refine ih ?_ (all_step hp ?_) _ _ ?_) <;> (first | omega | assumption | (simp only [*, List.map_append, List.length_append, List.length_cons, List.length_nil, List.map_cons, List.map_nil]; done) | (simp_all; done) | (simp_all; omega))) | ( ((have hd : depsAtP s i := fun y hy => hp y (by omega)); exact s_PlanOkS_L12 s hs hp0 m4 i hi (hq hd) (fun h9 => hn fun h8 => h9 h8.2) 0 (by omega) (fun k hk => by omega) 0 0 rfl)) | refine ev_ret rfl ?_)
  all_goals exact hn fun h9 => h (h9.1 j (by omega))
theorem s_PlanOkS_L4 (s : List TPkg) (hs : s.length ≤ 2000000) (hp0 : PL s) (hok : storeOk s = true) (hone : oneOk s = true) : ∀ i, i ≤ s.length → (∀ j, j < i → planAt s j) → ∀ (k : Int) (c : Nat), k = i →
    Ev (fun n => L35_4 (callF prg n) (n + 1) 0 (n + 1 - c) (.sl 4 (s.map ePkg)) (iI k) []) (Is (bB (planOk s)) []) := by
  have ho : ∀ i, i < s.length → oneAt s i := of_decide_eq_true hone
  refine up_ind ?_
  intro i hi ih hp k c hk
  subst hk
  (refine UL35_4 ?_; unfold LB35_4)
  repeat' (first | ((with_reducible refine eB ?_); first | ((with_reducible refine ev_lss ?_ ?_) <;> intro h <;> try (exfalso; omega)) | refine ev_bd rfl ?_ | refine ev_bd0 rfl ?_) | ((with_reducible refine eL ?_); first | ((with_reducible refine ev_lenm ?_ ?_); · rfl) | refine ev_lenom rfl rfl ?_ | refine ev_lenfm rfl rfl ?_ | refine ev_lenoc rfl rfl rfl ?_ | refine ev_lenc rfl rfl ?_ | refine ev_leno rfl rfl ?_ | refine ev_slen rfl ?_ | refine ev_bd rfl ?_ | refine ev_bd0 rfl ?_) | ((with_reducible refine eK ?_); first | (with_reducible first | refine ev_ct ?_ | refine ev_cf ?_) | ((with_reducible refine ev_cond ?_ ?_) <;> intro h)) | ((with_reducible refine eD ?_); first | refine ev_bd rfl ?_ | refine ev_bd0 rfl ?_) | ( exact s_PlanOkS_L7 s hs hp0 hok _ i (by omega) (fun hd hf => ih (by omega) (all_step hp ⟨ho i (by omega), hd, hf⟩) _ _ rfl) (fun h9 => ⟨congrArg bB (by rw [planOk, hok, Bool.true_and]; exact (all_false (i := i) (by omega) fun h8 => h9 h8.2).symm), rfl⟩) 0 (by omega) (fun k hk => by omega) 0 0 rfl) | refine ev_ret rfl ?_)
  exact ⟨congrArg bB (by rw [planOk, hok, Bool.true_and]; exact (all_true hp (by omega)).symm), rfl⟩
theorem s_PlanOkS (s : List TPkg) (hs : s.length ≤ 2000000) (hp0 : PL s) : Ex (fun m => callF prg m 35 [.sl 4 (s.map ePkg)] []) (bB (planOk s)) [] := by
  refine ev_is.1 ?_
  (refine U35 (nl := 0) rfl ?_; unfold B35)
  repeat' (first | ((with_reducible refine eG ?_); first | (with_reducible first | refine ev_gtt ?_ | refine ev_gff ?_ | refine ev_gtf ?_ | refine ev_gft ?_ | refine ev_gu ?_) | refine ev_bd rfl ?_ | refine ev_bd0 rfl ?_ | ((with_reducible refine ev_gB ?_ ?_) <;> intro h)) | ((with_reducible refine eC ?_); first | ((refine ev_callB (s_StoreOkS s hs hp0) rfl rfl ?_ rfl rfl ?_ ?_); (focus first | exact .inl rfl | exact .inr rfl | (refine .inr ?_; simp [flagC, ownF, hasSl3, hasSl1, SO.hasSl, List.all_map, flatSV, SV.cells, Function.comp_def]; done)); (all_goals (intro h)); (all_goals (try (exfalso; simp_all; done)))) | ((refine ev_callB (s_l13One s hs) rfl rfl ?_ rfl rfl ?_ ?_); (focus first | exact .inl rfl | exact .inr rfl | (refine .inr ?_; simp [flagC, ownF, hasSl3, hasSl1, SO.hasSl, List.all_map, flatSV, SV.cells, Function.comp_def]; done)); (all_goals (intro h)); (all_goals (try (exfalso; simp_all; done))))) | ((with_reducible refine eK ?_); first | (with_reducible first | refine ev_ct ?_ | refine ev_cf ?_) | ((with_reducible refine ev_cond ?_ ?_) <;> intro h)) | ((with_reducible refine eD ?_); first | refine ev_bd rfl ?_ | refine ev_bd0 rfl ?_ | ((with_reducible refine ev_pickB ?_ ?_) <;> intro h)) | ( exact s_PlanOkS_L4 s hs hp0 (by assumption) (by assumption) 0 (by omega) (fun j hj => by omega) 0 0 rfl) | refine ev_ret rfl ?_)
  all_goals first
    | (refine ⟨congrArg bB ?_, rfl⟩; simp [planOk, *]; done)
    | (refine ⟨congrArg bB ?_, rfl⟩
       have h1 : plansAt s = false := by
         refine decide_eq_false fun h9 => ?_
         have h8 : oneOk s = true := decide_eq_true fun i hi => (h9 i hi).1
         simp_all
       simp [planOk, h1])
    | trace_state
theorem s_bears1 (name ver : Int) (F : List TFile) (D : List TDep) (dn dl : Int) : Ex (fun m => callF prg m 74 [.ag [iI name, iI ver, .sl 2 (F.map eFile), .sl 2 (D.map eDep)], .ptr 0 0] [.box [iI dn, iI dl]]) (bB (decide (name = dn ∧ dl ≤ ver))) [.box [iI dn, iI dl]] := by
  refine ev_is.1 ?_
  (refine U74 (nl := 1) rfl ?_; unfold B74)
  repeat' (first | ((with_reducible refine eG ?_); first | (with_reducible first | refine ev_gtt ?_ | refine ev_gff ?_ | refine ev_gtf ?_ | refine ev_gft ?_ | refine ev_gu ?_) | refine ev_bd rfl ?_ | refine ev_bd0 rfl ?_ | ((with_reducible refine ev_gB ?_ ?_) <;> intro h)) | ((with_reducible refine eB ?_); first | ((with_reducible first | refine ev_geq ?_ ?_ | refine ev_eql ?_ ?_) <;> intro h <;> try (exfalso; omega)) | refine ev_bd rfl ?_ | refine ev_bd0 rfl ?_) | ((with_reducible refine eO ?_); first | refine ev_bd rfl ?_ | (refine ev_bdB rfl ?_ ?_ <;> intro h <;> try (exfalso; simp_all; done)) | refine ev_bd0 rfl ?_ | (refine ev_ldm rfl ?_ rfl ?_; (focus omega)) | (refine ev_ldmB rfl ?_ rfl ?_ ?_; (focus omega); (all_goals intro h))) | ((with_reducible refine eD ?_); first | refine ev_bd rfl ?_ | refine ev_bd0 rfl ?_ | ((with_reducible refine ev_pickB ?_ ?_) <;> intro h)) | refine ev_ret rfl ?_)
  all_goals (refine ⟨congrArg (fun b => SV.v (Value.bool b)) ?_, rfl⟩; first | (simp_all []; done) | (simp_all []; omega) | (simp [] at *; omega) | (simp []; omega) | grind [] | trace_state)
theorem s_IxPkg_L (s : List TPkg) (hs : s.length ≤ 2000000) (dn dl : Int) : ∀ i, i ≤ s.length → (∀ j, j < i → ¬ ((nth s j).name = dn ∧ dl ≤ (nth s j).ver)) → ∀ (k : Int) (c : Nat), k = i →
    Ev (fun n => L85_2 (callF prg n) (n + 1) 1 (n + 1 - c) (.sl 4 (s.map ePkg)) (.fn 74 [.ptr 0 0]) (iI s.length) (iI k) [.box [iI dn, iI dl]]) (fun y os => ∃ z : Int, y = iI z ∧ os = [.box [iI dn, iI dl]] ∧ (0 ≤ z ↔ bearsP s dn dl)) := by
  refine up_ind ?_
  intro i hi ih hp k c hk
  subst hk
  (refine UL85_2 ?_; unfold LB85_2)
  repeat' (first | ((with_reducible refine eB ?_); first | ((with_reducible refine ev_lss ?_ ?_) <;> intro h <;> try (exfalso; omega)) | ((with_reducible refine ev_add ?_ ?_); · omega) | refine ev_bd rfl ?_ | refine ev_bd0 rfl ?_) | ((with_reducible refine eI ?_); first | ((with_reducible refine ev_idxn ?_ ?_ ?_); (· rfl); · omega) | (refine ev_idxon rfl rfl ?_ ?_; (· first | omega | (simp only [List.length_cons, List.length_nil, List.length_map, List.length_append]; omega))) | (refine ev_idxfn rfl rfl ?_ ?_; (focus omega)) | ((with_reducible refine ev_idx ?_ ?_ ?_); (· rfl); · omega) | (refine ev_idxo rfl rfl ?_ ?_; (· first | omega | (simp only [List.length_cons, List.length_nil, List.length_map, List.length_append]; omega))) | (refine ev_idxf rfl rfl ?_ ?_; (focus omega)) | refine ev_bd rfl ?_ | refine ev_bd0 rfl ?_) | ((with_reducible refine eC ?_); first | ((refine ev_callD (s_bears1 _ _ _ _ _ _) rfl rfl ?_ rfl rfl ?_ ?_); (focus first | exact .inl rfl | exact .inr rfl | (refine .inr ?_; simp [flagC, ownF, hasSl3, hasSl1, SO.hasSl, List.all_map, flatSV, SV.cells, Function.comp_def]; done)); (all_goals (intro h)); (all_goals (try (exfalso; first | omega | exact h rfl | exact h ⟨rfl, rfl, rfl⟩))))) | (with_reducible refine ev_callee ?_) | ((with_reducible refine eK ?_); first | (with_reducible first | refine ev_ct ?_ | refine ev_cf ?_) | ((with_reducible refine ev_cond ?_ ?_) <;> intro h)) | ((with_reducible refine eO ?_); first | refine ev_bd rfl ?_ | (refine ev_bdB rfl ?_ ?_ <;> intro h <;> try (exfalso; simp_all; done)) | refine ev_bd0 rfl ?_ | (refine ev_ldm rfl ?_ rfl ?_; (focus omega)) | (refine ev_ldmB rfl ?_ rfl ?_ ?_; (focus omega); (all_goals intro h))) | ((with_reducible refine eD ?_); first | refine ev_bd rfl ?_ | refine ev_bd0 rfl ?_) | ((with_reducible refine ih ?_ (all_step hp ?_) _ _ ?_) <;> (first | omega | assumption | (simp only [*, List.map_append, List.length_append, List.length_cons, List.length_nil, List.map_cons, List.map_nil]; done) | (simp_all; done) | (simp_all; omega))) | refine ev_ret rfl ?_)
  · exact ⟨_, rfl, rfl, ⟨fun _ => ⟨_, nth_mem (l := s) (k := i) (by omega), h⟩, fun _ => by omega⟩⟩
  · refine ⟨_, rfl, rfl, ⟨fun h9 => by omega, fun h9 => ?_⟩⟩
    obtain ⟨q, hq, h8⟩ := h9
    obtain ⟨j, hj, rfl⟩ := mem_nth hq
    exact absurd h8 (hp j (by omega))
theorem s_IxPkg (s : List TPkg) (hs : s.length ≤ 2000000) (dn dl : Int) : ∃ z : Int, (0 ≤ z ↔ bearsP s dn dl) ∧ Ex (fun m => callF prg m 85 [.sl 4 (s.map ePkg), .fn 74 [.ptr 0 0]] [.box [iI dn, iI dl]]) (iI z) [.box [iI dn, iI dl]] := by
  have key : Ev (fun m => callF prg m 85 [.sl 4 (s.map ePkg), .fn 74 [.ptr 0 0]] [.box [iI dn, iI dl]]) (fun y os => ∃ z : Int, y = iI z ∧ os = [.box [iI dn, iI dl]] ∧ (0 ≤ z ↔ bearsP s dn dl)) := by
    (refine U85 (nl := 1) rfl ?_; unfold B85)
    repeat' (first | ((with_reducible refine eL ?_); first | ((with_reducible refine ev_lenm ?_ ?_); · rfl) | refine ev_lenom rfl rfl ?_ | refine ev_lenfm rfl rfl ?_ | refine ev_lenoc rfl rfl rfl ?_ | refine ev_lenc rfl rfl ?_ | refine ev_leno rfl rfl ?_ | refine ev_slen rfl ?_ | refine ev_bd rfl ?_ | refine ev_bd0 rfl ?_) | ((with_reducible refine eD ?_); first | refine ev_bd rfl ?_ | refine ev_bd0 rfl ?_) | ( exact s_IxPkg_L s hs dn dl 0 (by omega) (fun j hj => by omega) 0 0 rfl) | refine ev_ret rfl ?_)
  obtain ⟨_, _, ⟨z, rfl, rfl, hz⟩, he⟩ := key
  exact ⟨z, hz, he⟩
theorem s_CtPkg (s : List TPkg) (hs : s.length ≤ 2000000) (dn dl : Int) : Ex (fun m => callF prg m 73 [.sl 4 (s.map ePkg), .fn 74 [.ptr 0 0]] [.box [iI dn, iI dl]]) (bB (decide (bearsP s dn dl))) [.box [iI dn, iI dl]] := by
  refine ev_is.1 ?_
  (refine U73 (nl := 1) rfl ?_; unfold B73)
  repeat' (first | ((with_reducible refine eB ?_); first | ((with_reducible refine ev_geq ?_ ?_) <;> intro h <;> try (exfalso; omega)) | refine ev_bd rfl ?_ | refine ev_bd0 rfl ?_) | ((with_reducible refine eC ?_); first | ((refine ev_callN (s_IxPkg s hs dn dl) rfl rfl ?_ (fun _ => rfl) ?_); (· first | exact .inl rfl | exact .inr (fun _ => rfl)); (first | (have q0 := z3; clear q0; intro z4 hz4) | (have q0 := z2; clear q0; intro z3 hz3) | (have q0 := z; clear q0; intro z2 hz2) | (intro z hz)))) | ((with_reducible refine eD ?_); first | refine ev_bd rfl ?_ | refine ev_bd0 rfl ?_) | refine ev_ret rfl ?_)
  all_goals exact ⟨congrArg bB (by simp [← hz]; omega), rfl⟩
theorem s_bears (s : List TPkg) (hs : s.length ≤ 2000000) (dn dl : Int) : Ex (fun m => callF prg m 62 [.sl 4 (s.map ePkg), .ag [iI dn, iI dl]] []) (bB (decide (bearsP s dn dl))) [] := by
  refine ev_is.1 ?_
  (refine U62 (nl := 0) rfl ?_; unfold B62)
  repeat' (first | ((with_reducible refine eC ?_); first | ((refine ev_callD (s_CtPkg s hs dn dl) rfl rfl ?_ rfl rfl ?_ ?_); (focus first | exact .inl rfl | exact .inr rfl | (refine .inr ?_; simp [flagC, ownF, hasSl3, hasSl1, SO.hasSl, List.all_map, flatSV, SV.cells, Function.comp_def]; done)); (all_goals (intro h)); (all_goals (try (exfalso; first | omega | exact h rfl | exact h ⟨rfl, rfl, rfl⟩))))) | ((with_reducible refine eD ?_); first | refine ev_bd rfl ?_ | refine ev_bd0 rfl ?_) | refine ev_ret rfl ?_)
  all_goals exact ⟨congrArg bB (by simp [h]), rfl⟩
theorem s_PlanOk1 (s : List TPkg) (hs : s.length ≤ 2000000) (dn dl : Int) : Ex (fun m => callF prg m 61 [.ag [iI dn, iI dl], .ptr 0 0] [.box [.sl 4 (s.map ePkg)]]) (bB (decide (¬ bearsP s dn dl))) [.box [.sl 4 (s.map ePkg)]] := by
  refine ev_is.1 ?_
  (refine U61 (nl := 1) rfl ?_; unfold B61)
  repeat' (first | ((with_reducible refine eC ?_); first | ((refine ev_callD (s_bears s hs dn dl) rfl rfl ?_ rfl rfl ?_ ?_); (focus first | exact .inl rfl | exact .inr rfl | (refine .inr ?_; simp [flagC, ownF, hasSl3, hasSl1, SO.hasSl, List.all_map, flatSV, SV.cells, Function.comp_def]; done)); (all_goals (intro h)); (all_goals (try (exfalso; first | omega | exact h rfl | exact h ⟨rfl, rfl, rfl⟩))))) | ((with_reducible refine eO ?_); first | refine ev_bd rfl ?_ | (refine ev_bdB rfl ?_ ?_ <;> intro h <;> try (exfalso; simp_all; done)) | refine ev_bd0 rfl ?_ | (refine ev_ldm rfl ?_ rfl ?_; (focus omega)) | (refine ev_ldmB rfl ?_ rfl ?_ ?_; (focus omega); (all_goals intro h))) | ((with_reducible refine eD ?_); first | refine ev_bd rfl ?_ | refine ev_bd0 rfl ?_) | refine ev_ret rfl ?_)
  all_goals exact ⟨congrArg bB (by simp [h]), rfl⟩
theorem s_IxDep_L (s : List TPkg) (hs : s.length ≤ 2000000) (D : List TDep) (hD : D.length ≤ 2000000) : ∀ i, i ≤ D.length → (∀ j, j < i → bearsP s (nth D j).name (nth D j).least) → ∀ (k : Int) (c : Nat), k = i →
    Ev (fun n => L72_2 (callF prg n) (n + 1) 1 (n + 1 - c) (.sl 2 (D.map eDep)) (.fn 61 [.ptr 0 0]) (iI D.length) (iI k) [.box [.sl 4 (s.map ePkg)]]) (fun y os => ∃ z : Int, y = iI z ∧ os = [.box [.sl 4 (s.map ePkg)]] ∧ (0 ≤ z ↔ ¬ ∀ j, j < D.length → bearsP s (nth D j).name (nth D j).least)) := by
  refine up_ind ?_
  intro i hi ih hp k c hk
  subst hk
  (refine UL72_2 ?_; unfold LB72_2)
  repeat' (first | ((with_reducible refine eB ?_); first | ((with_reducible refine ev_lss ?_ ?_) <;> intro h <;> try (exfalso; omega)) | ((with_reducible refine ev_add ?_ ?_); · omega) | refine ev_bd rfl ?_ | refine ev_bd0 rfl ?_) | ((with_reducible refine eI ?_); first | ((with_reducible refine ev_idxn ?_ ?_ ?_); (· rfl); · omega) | (refine ev_idxon rfl rfl ?_ ?_; (· first | omega | (simp only [List.length_cons, List.length_nil, List.length_map, List.length_append]; omega))) | (refine ev_idxfn rfl rfl ?_ ?_; (focus omega)) | ((with_reducible refine ev_idx ?_ ?_ ?_); (· rfl); · omega) | (refine ev_idxo rfl rfl ?_ ?_; (· first | omega | (simp only [List.length_cons, List.length_nil, List.length_map, List.length_append]; omega))) | (refine ev_idxf rfl rfl ?_ ?_; (focus omega)) | refine ev_bd rfl ?_ | refine ev_bd0 rfl ?_) | ((with_reducible refine eC ?_); first | ((refine ev_callD (s_PlanOk1 s hs _ _) rfl rfl ?_ rfl rfl ?_ ?_); (focus first | exact .inl rfl | exact .inr rfl | (refine .inr ?_; simp [flagC, ownF, hasSl3, hasSl1, SO.hasSl, List.all_map, flatSV, SV.cells, Function.comp_def]; done)); (all_goals (intro h)); (all_goals (try (exfalso; first | omega | exact h rfl | exact h ⟨rfl, rfl, rfl⟩))))) | (with_reducible refine ev_callee ?_) | ((with_reducible refine eK ?_); first | (with_reducible first | refine ev_ct ?_ | refine ev_cf ?_) | ((with_reducible refine ev_cond ?_ ?_) <;> intro h)) | ((with_reducible refine eO ?_); first | refine ev_bd rfl ?_ | (refine ev_bdB rfl ?_ ?_ <;> intro h <;> try (exfalso; simp_all; done)) | refine ev_bd0 rfl ?_ | (refine ev_ldm rfl ?_ rfl ?_; (focus omega)) | (refine ev_ldmB rfl ?_ rfl ?_ ?_; (focus omega); (all_goals intro h))) | ((with_reducible refine eD ?_); first | refine ev_bd rfl ?_ | refine ev_bd0 rfl ?_) | ((with_reducible refine ih ?_ (all_step hp ?_) _ _ ?_) <;> (first | omega | assumption | ((exact Decidable.not_not.1 h)) | (simp only [*, List.map_append, List.length_append, List.length_cons, List.length_nil, List.map_cons, List.map_nil]; done) | (simp_all; done) | (simp_all; omega))) | refine ev_ret rfl ?_)
  · exact ⟨_, rfl, rfl, ⟨fun _ h9 => h (h9 i (by omega)), fun _ => by omega⟩⟩
  · exact ⟨_, rfl, rfl, ⟨fun h9 => by omega, fun h9 => absurd (fun j hj => hp j (by omega)) h9⟩⟩
theorem s_IxDep (s : List TPkg) (hs : s.length ≤ 2000000) (D : List TDep) (hD : D.length ≤ 2000000) : ∃ z : Int, (0 ≤ z ↔ ¬ ∀ j, j < D.length → bearsP s (nth D j).name (nth D j).least) ∧ Ex (fun m => callF prg m 72 [.sl 2 (D.map eDep), .fn 61 [.ptr 0 0]] [.box [.sl 4 (s.map ePkg)]]) (iI z) [.box [.sl 4 (s.map ePkg)]] := by
  have key : Ev (fun m => callF prg m 72 [.sl 2 (D.map eDep), .fn 61 [.ptr 0 0]] [.box [.sl 4 (s.map ePkg)]]) (fun y os => ∃ z : Int, y = iI z ∧ os = [.box [.sl 4 (s.map ePkg)]] ∧ (0 ≤ z ↔ ¬ ∀ j, j < D.length → bearsP s (nth D j).name (nth D j).least)) := by
    (refine U72 (nl := 1) rfl ?_; unfold B72)
    repeat' (first | ((with_reducible refine eL ?_); first | ((with_reducible refine ev_lenm ?_ ?_); · rfl) | refine ev_lenom rfl rfl ?_ | refine ev_lenfm rfl rfl ?_ | refine ev_lenoc rfl rfl rfl ?_ | refine ev_lenc rfl rfl ?_ | refine ev_leno rfl rfl ?_ | refine ev_slen rfl ?_ | refine ev_bd rfl ?_ | refine ev_bd0 rfl ?_) | ((with_reducible refine eD ?_); first | refine ev_bd rfl ?_ | refine ev_bd0 rfl ?_) | ( exact s_IxDep_L s hs D hD 0 (by omega) (fun j hj => by omega) 0 0 rfl) | refine ev_ret rfl ?_)
  obtain ⟨_, _, ⟨z, rfl, rfl, hz⟩, he⟩ := key
  exact ⟨z, hz, he⟩
theorem s_CtDep (s : List TPkg) (hs : s.length ≤ 2000000) (D : List TDep) (hD : D.length ≤ 2000000) : Ex (fun m => callF prg m 60 [.sl 2 (D.map eDep), .fn 61 [.ptr 0 0]] [.box [.sl 4 (s.map ePkg)]]) (bB (decide (¬ ∀ j, j < D.length → bearsP s (nth D j).name (nth D j).least))) [.box [.sl 4 (s.map ePkg)]] := by
  refine ev_is.1 ?_
  (refine U60 (nl := 1) rfl ?_; unfold B60)
  repeat' (first | ((with_reducible refine eB ?_); first | ((with_reducible refine ev_geq ?_ ?_) <;> intro h <;> try (exfalso; omega)) | refine ev_bd rfl ?_ | refine ev_bd0 rfl ?_) | ((with_reducible refine eC ?_); first | ((refine ev_callN (s_IxDep s hs D hD) rfl rfl ?_ (fun _ => rfl) ?_); (· first | exact .inl rfl | exact .inr (fun _ => rfl)); (first | (have q0 := z3; clear q0; intro z4 hz4) | (have q0 := z2; clear q0; intro z3 hz3) | (have q0 := z; clear q0; intro z2 hz2) | (intro z hz)))) | ((with_reducible refine eD ?_); first | refine ev_bd rfl ?_ | refine ev_bd0 rfl ?_) | refine ev_ret rfl ?_)
  · exact ⟨congrArg bB (decide_eq_true (hz.1 h)).symm, rfl⟩
  · exact ⟨congrArg bB (decide_eq_false fun h9 => h (hz.2 h9)).symm, rfl⟩
end Go.Proofs.Ytbagbhbplhkjaaa

/- Packages that can be in together: the program's function. -/
namespace Go.Proofs.Ytbagbhbplhkjaaa
open Go
set_option linter.unusedVariables false
set_option linter.unusedSimpArgs false
set_option maxHeartbeats 4000000
theorem pkg_files {p : TPkg} (h : pkgOk p = true) : p.files.length ≤ 2 ∧ ∀ i, i < p.files.length → fileAt p.files i := by
  obtain ⟨-, -, h3, -⟩ := pkgOk_iff.1 h
  simp only [filesOk, filesAt, Bool.and_eq_true, decide_eq_true_eq] at h3
  exact h3
theorem files_grow {p : TPkg} (h : pkgOk p = true) : ∀ j i, i < j → j < p.files.length → (nth p.files i).path < (nth p.files j).path := by
  obtain ⟨-, hf⟩ := pkg_files h
  intro j
  induction j with
  | zero => intro i hi; omega
  | succ j ih =>
    intro i hi hj
    have h1 := (hf (j + 1) hj).2.2 (by omega)
    simp only [Nat.add_sub_cancel] at h1
    by_cases e : i = j
    · subst e; exact h1
    · have := ih i (by omega) (by omega); omega
def sel6 (t0 t1 t2 t3 t4 t5 : Bool) (x : Int) : Bool := if x = 0 then t0 else if x = 1 then t1 else if x = 2 then t2 else if x = 3 then t3 else if x = 4 then t4 else t5
def usedAt (s : List TPkg) (i k : Nat) (x : Int) : Prop := ownedTo s i x ∨ ∃ j, j < k ∧ (nth (nth s i).files j).path = x
def Tk (s : List TPkg) (i k : Nat) (t0 t1 t2 t3 t4 t5 : Bool) : Prop := ∀ x, 0 ≤ x → x ≤ 5 → (sel6 t0 t1 t2 t3 t4 t5 x = true ↔ usedAt s i k x)
theorem used_step {s : List TPkg} {i k : Nat} {x : Int} : usedAt s i (k + 1) x ↔ usedAt s i k x ∨ (nth (nth s i).files k).path = x := by
  unfold usedAt
  constructor
  · rintro (h | ⟨j, hj, h⟩)
    · exact .inl (.inl h)
    · by_cases e : j = k
      · subst e; exact .inr h
      · exact .inl (.inr ⟨j, by omega, h⟩)
  · rintro ((h | ⟨j, hj, h⟩) | h)
    · exact .inl h
    · exact .inr ⟨j, by omega, h⟩
    · exact .inr ⟨k, by omega, h⟩
theorem used_end {s : List TPkg} {i : Nat} {x : Int} : usedAt s i (nth s i).files.length x ↔ usedAt s (i + 1) 0 x := by
  unfold usedAt
  rw [owned_step]
  constructor
  · rintro (h | ⟨j, hj, h⟩)
    · exact .inl (.inl h)
    · exact .inl (.inr ⟨_, nth_mem hj, h⟩)
  · rintro ((h | ⟨f, hf, h⟩) | ⟨j, hj, -⟩)
    · exact .inl h
    · obtain ⟨j, hj, rfl⟩ := mem_nth hf
      exact .inr ⟨j, hj, h⟩
    · omega
theorem s_PlanOkI_L10 (s : List TPkg) (hs : s.length ≤ 2000000) (hp0 : PL s) {Q : SV → List SO → Prop} (m5 : Nat → Nat) (i : Nat) (hi : i < s.length) (hpk : pkgOk (nth s i) = true)
    (hq : filesAtP s i → ∀ t0 t1 t2 t3 t4 t5, Tk s (i + 1) 0 t0 t1 t2 t3 t4 t5 → Ev (fun n => L41_5 (callF prg n) (n + 1) 0 (m5 n) (.ptr 0 0) (.ptr 1 0) (.sl 4 (s.map ePkg)) (iI s.length) (iI ((i : Int) + 1)) [.box [.sl 4 (s.map ePkg)], .box [bB t0, bB t1, bB t2, bB t3, bB t4, bB t5]]) Q) (hn : ¬ filesAtP s i → Q (bB false) []) :
    ∀ j, j ≤ (nth s i).files.length → (∀ k, k < j → ¬ ownedTo s i (nth (nth s i).files k).path) → ∀ (t0 t1 t2 t3 t4 t5 : Bool), Tk s i j t0 t1 t2 t3 t4 t5 → ∀ (k : Int) (c : Nat), k = j →
    Ev (fun n => G41_10 (callF prg n) (n + 1) 0 (m5 n) (n + 1 - c) [.ptr 0 0, .ptr 1 0, .sl 4 (s.map ePkg), iI s.length, iI i, .sl 2 ((nth s i).files.map eFile), iI (nth s i).files.length, iI k] [.box [.sl 4 (s.map ePkg)], .box [bB t0, bB t1, bB t2, bB t3, bB t4, bB t5]]) Q := by
  have hpi := hp0 i
  have hfa := (pkg_files hpk).2
  refine up_ind ?_
  intro j hj ih hp t0 t1 t2 t3 t4 t5 ht k c hk
  subst hk
  have h6 : j < (nth s i).files.length → (nth (nth s i).files j).path = 0 ∨ (nth (nth s i).files j).path = 1 ∨ (nth (nth s i).files j).path = 2 ∨ (nth (nth s i).files j).path = 3 ∨ (nth (nth s i).files j).path = 4 ∨ (nth (nth s i).files j).path = 5 := fun h => by
    have := hfa j h; unfold fileAt at this; omega
  have hno : ∀ x : Int, (nth (nth s i).files j).path = x → j < (nth s i).files.length → ¬ usedAt s i j x → ¬ ownedTo s i (nth (nth s i).files j).path := fun x e _ h h9 => h (.inl (e ▸ h9))
  have hyes : ∀ x : Int, (nth (nth s i).files j).path = x → j < (nth s i).files.length → usedAt s i j x → ¬ filesAtP s i := fun x e hj2 h h9 => by
    rcases h with h | ⟨y, hy, h⟩
    · exact h9 j hj2 (e ▸ h)
    · have := files_grow hpk j y hy hj2; omega
  (refine UG41_10 _ ?_; unfold GB41_10)
  repeat' (first | ( ((with_reducible refine eO ?_); (refine ev_bdB rfl ?_ ?_ <;> intro h))) | ((with_reducible refine eB ?_); first | ((with_reducible refine ev_lss ?_ ?_) <;> intro h <;> try (exfalso; omega)) | ((with_reducible refine ev_add ?_ ?_); · omega) | refine ev_bd rfl ?_ | refine ev_bd0 rfl ?_) | ((with_reducible refine eI ?_); first | ((with_reducible refine ev_idxn ?_ ?_ ?_); (· rfl); · omega) | (refine ev_idxon rfl rfl ?_ ?_; (· first | omega | (simp only [List.length_cons, List.length_nil, List.length_map, List.length_append]; omega))) | (refine ev_idxfn rfl rfl ?_ ?_; (focus omega)) | ((with_reducible refine ev_idx ?_ ?_ ?_); (· rfl); · omega) | ( (rcases h6 (by omega) with e6 | e6 | e6 | e6 | e6 | e6 <;> (rw [e6]; refine ev_bd rfl ?_))) | (refine ev_idxo rfl rfl ?_ ?_; (· first | omega | (simp only [List.length_cons, List.length_nil, List.length_map, List.length_append]; omega))) | (refine ev_idxf rfl rfl ?_ ?_; (focus omega)) | refine ev_bd rfl ?_ | refine ev_bd0 rfl ?_) | ((with_reducible refine eK ?_); first | (with_reducible first | refine ev_ct ?_ | refine ev_cf ?_) | ((with_reducible refine ev_cond ?_ ?_) <;> intro h)) | ((with_reducible refine eO ?_); first | refine ev_bd rfl ?_ | (refine ev_bdB rfl ?_ ?_ <;> intro h <;> try (exfalso; simp_all; done)) | refine ev_bd0 rfl ?_ | (refine ev_ldm rfl ?_ rfl ?_; (focus omega)) | (refine ev_ldmB rfl ?_ rfl ?_ ?_; (focus omega); (all_goals intro h))) | ((with_reducible refine eD ?_); first | refine ev_bd rfl ?_ | refine ev_bd0 rfl ?_) | ((with_reducible refine eH ?_); first | refine ev_gcB rfl ?_) | (with_reducible first | refine UL41_10 ?_ | refine VL41_10 ?_) | ((with_reducible refine ih ?_ (all_step hp ?_) _ _ _ _ _ _ ?_ _ _ ?_) <;> (first | omega | assumption | ((first | (exact hno _ e6 (by omega) fun h9 => by have h8 := (ht _ (by omega) (by omega)).2 h9; simp [sel6] at h8; simp_all) | (intro x hx1 hx2; rw [used_step, ← ht x hx1 hx2, e6]; (obtain rfl | rfl | rfl | rfl | rfl | rfl : x = 0 ∨ x = 1 ∨ x = 2 ∨ x = 3 ∨ x = 4 ∨ x = 5 := by omega) <;> simp [sel6]))) | (simp only [*, List.map_append, List.length_append, List.length_cons, List.length_nil, List.map_cons, List.map_nil]; done) | (simp_all; done) | (simp_all; omega))) | ( exact hq (fun y hy => hp y (by omega)) _ _ _ _ _ _ (by (intro x hx1 hx2); (rw [ht x hx1 hx2, ← used_end]); (rw [show j = (nth s i).files.length by omega]))) | refine ev_ret rfl ?_)
  all_goals first
    | exact hn (hyes _ e6 (by omega) ((ht _ (by omega) (by omega)).1 (by simpa [sel6] using h)))
    | trace_state
theorem planAt_mk {s : List TPkg} {i : Nat} (a : oneAt s i) (b : depsAtP s i) (c : filesAtP s i) : planAt s i := ⟨a, b, c⟩
theorem s_PlanOkI_L5 (s : List TPkg) (hs : s.length ≤ 2000000) (hp0 : PL s) (hok : storeOk s = true) : ∀ i, i ≤ s.length → (∀ j, j < i → planAt s j) → ∀ (t0 t1 t2 t3 t4 t5 : Bool), Tk s i 0 t0 t1 t2 t3 t4 t5 → ∀ (k : Int) (c : Nat), k = i →
    Ev (fun n => G41_5 (callF prg n) (n + 1) 0 (n + 1 - c) [.ptr 0 0, .ptr 1 0, .sl 4 (s.map ePkg), iI s.length, iI k] [.box [.sl 4 (s.map ePkg)], .box [bB t0, bB t1, bB t2, bB t3, bB t4, bB t5]]) (Is (bB (planOk s)) []) := by
  refine up_ind ?_
  intro i hi ih hp t0 t1 t2 t3 t4 t5 ht k c hk
  subst hk
  have hpi := hp0 i
  have hnext : i < s.length → oneAt s i → depsAtP s i → filesAtP s i → ∀ u0 u1 u2 u3 u4 u5, Tk s (i + 1) 0 u0 u1 u2 u3 u4 u5 → ∀ c, Ev (fun n => L41_5 (callF prg n) (n + 1) 0 (n + 1 - c) (.ptr 0 0) (.ptr 1 0) (.sl 4 (s.map ePkg)) (iI s.length) (iI ((i : Int) + 1)) [.box [.sl 4 (s.map ePkg)], .box [bB u0, bB u1, bB u2, bB u3, bB u4, bB u5]]) (Is (bB (planOk s)) []) := by
    intro hi2 ho hd hf u0 u1 u2 u3 u4 u5 hu c
    repeat' (first | ((with_reducible refine eG ?_); first | (with_reducible first | refine ev_gtt ?_ | refine ev_gff ?_ | refine ev_gtf ?_ | refine ev_gft ?_ | refine ev_gu ?_) | refine ev_bd rfl ?_ | refine ev_bd0 rfl ?_ | ((with_reducible refine ev_gB ?_ ?_) <;> intro h)) | ((with_reducible refine eB ?_); first | ((with_reducible first | refine ev_lss ?_ ?_ | refine ev_leq ?_ ?_ | refine ev_gtr ?_ ?_ | refine ev_geq ?_ ?_ | refine ev_eql ?_ ?_ | refine ev_neq ?_ ?_) <;> intro h <;> try (exfalso; omega)) | ((with_reducible first | refine ev_add ?_ ?_ | refine ev_sub ?_ ?_ | refine ev_mul ?_ ?_); · omega) | ((with_reducible refine ev_quo ?_ ?_ ?_); (· omega); (· omega); intro x hx hx0 hx1) | ((with_reducible refine ev_rem ?_ ?_); (· omega); intro x hx hx0 hx1) | ((with_reducible first | refine ev_eql3 ?_ ?_ ?_ | refine ev_neq3 ?_ ?_ ?_ | refine ev_eql2 ?_ ?_ ?_ | refine ev_neq2 ?_ ?_ ?_); (· rfl); all_goals intro h) | refine ev_bd rfl ?_ | refine ev_bd0 rfl ?_) | ((with_reducible refine eL ?_); first | ((with_reducible refine ev_lenm ?_ ?_); · rfl) | refine ev_lenom rfl rfl ?_ | refine ev_lenfm rfl rfl ?_ | refine ev_lenoc rfl rfl rfl ?_ | refine ev_lenc rfl rfl ?_ | refine ev_leno rfl rfl ?_ | refine ev_slen rfl ?_ | refine ev_bd rfl ?_ | refine ev_bd0 rfl ?_) | ((with_reducible refine eI ?_); first | ((with_reducible refine ev_idxn ?_ ?_ ?_); (· rfl); · omega) | (refine ev_idxon rfl rfl ?_ ?_; (· first | omega | (simp only [List.length_cons, List.length_nil, List.length_map, List.length_append]; omega))) | (refine ev_idxfn rfl rfl ?_ ?_; (focus omega)) | ((with_reducible refine ev_idx ?_ ?_ ?_); (· rfl); · omega) | (refine ev_idxo rfl rfl ?_ ?_; (· first | omega | (simp only [List.length_cons, List.length_nil, List.length_map, List.length_append]; omega))) | (refine ev_idxf rfl rfl ?_ ?_; (focus omega)) | refine ev_bd rfl ?_ | refine ev_bd0 rfl ?_) | ((with_reducible refine eS ?_); first | ((with_reducible first | refine ev_slh ?_ ?_ ?_ | refine ev_sll ?_ ?_ ?_); (· rfl); · omega) | ((first | refine ev_slvh rfl rfl ?_ ?_ | refine ev_slvl rfl rfl ?_ ?_); (· first | omega | (simp only [List.length_cons, List.length_nil, List.length_map, List.length_append]; omega))) | refine ev_bd rfl ?_ | refine ev_bd0 rfl ?_) | ((with_reducible refine eC ?_); first | fail) | (with_reducible refine ev_callee ?_) | ((with_reducible refine eA ?_); first | (refine ev_app rfl rfl rfl rfl rfl ?_ ?_; · first | decide | (simp only [List.length_append, List.length_cons, List.length_nil, List.length_map, List.length_take, List.length_drop]; omega))) | ((with_reducible refine eV ?_); first | ((with_reducible refine ev_conv64 ?_ ?_ ?_ ?_); (· rfl); (· rfl); · omega) | refine ev_bd rfl ?_ | refine ev_bd0 rfl ?_) | ((with_reducible refine eK ?_); first | (with_reducible first | refine ev_ct ?_ | refine ev_cf ?_) | ((with_reducible refine ev_cond ?_ ?_) <;> intro h)) | ((with_reducible refine eO ?_); first | refine ev_bd rfl ?_ | (refine ev_bdB rfl ?_ ?_ <;> intro h <;> try (exfalso; simp_all; done)) | refine ev_bd0 rfl ?_ | (refine ev_ldm rfl ?_ rfl ?_; (focus omega)) | (refine ev_ldmB rfl ?_ rfl ?_ ?_; (focus omega); (all_goals intro h)) | (refine ev_ldz rfl rfl rfl ?_ ?_ ?_; (· simp); (· first | omega | (simp only [List.length_cons, List.length_nil, List.length_map, List.length_append]; omega)); intro w)) | ((with_reducible refine eD ?_); first | refine ev_bd rfl ?_ | refine ev_bd0 rfl ?_ | ((with_reducible refine ev_pickB ?_ ?_) <;> intro h)) | ((with_reducible refine ev_dchk ?_ ?_); · intro _; rfl) | ((with_reducible refine eH ?_); first | refine ev_gcB rfl ?_) | (with_reducible first | refine UL41_5 ?_ | refine VL41_5 ?_) | ((with_reducible refine ih ?_ (all_step hp (planAt_mk ho hd hf)) _ _ _ _ _ _ hu _ _ ?_) <;> (first | omega | assumption | (simp only [*, List.map_append, List.length_append, List.length_cons, List.length_nil, List.map_cons, List.map_nil]; done) | (simp_all; done) | (simp_all; omega))) | refine ev_ret rfl ?_)
  have hfail : i < s.length → ¬ planAt s i → Is (bB (planOk s)) [] (bB false) [] := fun hi2 h => by
    refine ⟨congrArg bB ?_, rfl⟩
    rw [planOk, hok, Bool.true_and]
    exact (all_false (i := i) hi2 h).symm
  have hone : i < s.length → (0 < i → (nth s (i - 1)).name ≠ (nth s i).name) → oneAt s i := fun hi2 h h0 => by
    have h1 := (storeOk_iff.1 hok i hi2).2 h0
    have h2 := h h0
    unfold pless at h1; omega
  (refine UG41_5 _ ?_; unfold GB41_5)
  repeat' (first | ((with_reducible refine eG ?_); first | (with_reducible first | refine ev_gtt ?_ | refine ev_gff ?_ | refine ev_gtf ?_ | refine ev_gft ?_ | refine ev_gu ?_) | refine ev_bd rfl ?_ | refine ev_bd0 rfl ?_ | ((with_reducible refine ev_gB ?_ ?_) <;> intro h)) | ((with_reducible refine eB ?_); first | ((with_reducible first | refine ev_lss ?_ ?_ | refine ev_gtr ?_ ?_ | refine ev_eql ?_ ?_) <;> intro h <;> try (exfalso; omega)) | ((with_reducible refine ev_sub ?_ ?_); · omega) | refine ev_bd rfl ?_ | refine ev_bd0 rfl ?_) | ((with_reducible refine eL ?_); first | ((with_reducible refine ev_lenm ?_ ?_); · rfl) | refine ev_lenom rfl rfl ?_ | refine ev_lenfm rfl rfl ?_ | refine ev_lenoc rfl rfl rfl ?_ | refine ev_lenc rfl rfl ?_ | refine ev_leno rfl rfl ?_ | refine ev_slen rfl ?_ | refine ev_bd rfl ?_ | refine ev_bd0 rfl ?_) | ((with_reducible refine eI ?_); first | ((with_reducible refine ev_idxn ?_ ?_ ?_); (· rfl); · omega) | (refine ev_idxon rfl rfl ?_ ?_; (· first | omega | (simp only [List.length_cons, List.length_nil, List.length_map, List.length_append]; omega))) | (refine ev_idxfn rfl rfl ?_ ?_; (focus omega)) | ((with_reducible refine ev_idx ?_ ?_ ?_); (· rfl); · omega) | (refine ev_idxo rfl rfl ?_ ?_; (· first | omega | (simp only [List.length_cons, List.length_nil, List.length_map, List.length_append]; omega))) | (refine ev_idxf rfl rfl ?_ ?_; (focus omega)) | refine ev_bd rfl ?_ | refine ev_bd0 rfl ?_) | ((with_reducible refine eC ?_); first | ((refine ev_callD (s_CtDep s hs _ hpi.2) rfl rfl ?_ rfl rfl ?_ ?_); (focus first | exact .inl rfl | exact .inr rfl | (refine .inr ?_; simp [flagC, ownF, hasSl3, hasSl1, SO.hasSl, List.all_map, flatSV, SV.cells, Function.comp_def]; done)); (all_goals (intro h)); (all_goals (try (exfalso; first | omega | exact h rfl | exact h ⟨rfl, rfl, rfl⟩))))) | ((with_reducible refine eK ?_); first | (with_reducible first | refine ev_ct ?_ | refine ev_cf ?_) | ((with_reducible refine ev_cond ?_ ?_) <;> intro h)) | ((with_reducible refine eO ?_); first | refine ev_bd rfl ?_ | (refine ev_bdB rfl ?_ ?_ <;> intro h <;> try (exfalso; simp_all; done)) | refine ev_bd0 rfl ?_ | (refine ev_ldm rfl ?_ rfl ?_; (focus omega)) | (refine ev_ldmB rfl ?_ rfl ?_ ?_; (focus omega); (all_goals intro h))) | ((with_reducible refine eD ?_); first | refine ev_bd rfl ?_ | refine ev_bd0 rfl ?_ | ((with_reducible refine ev_pickB ?_ ?_) <;> intro h)) | ((with_reducible refine eH ?_); first | refine ev_gcB rfl ?_) | (with_reducible first | refine UL41_10 ?_ | refine VL41_10 ?_) | refine ev_ret rfl ?_)
  all_goals first
    | exact hfail (by omega) fun h9 => by have := h9.1 (by omega); (try simp only [Int.toNat_natCast, tn_sub1, tn_add1] at *); omega
    | exact hfail (by omega) fun h9 => h h9.2.1
    | exact ⟨congrArg bB (by rw [planOk, hok, Bool.true_and]; exact (all_true hp (by omega)).symm), rfl⟩
    | skip
  all_goals exact s_PlanOkI_L10 s hs hp0 _ i (by omega) (storeOk_iff.1 hok i (by omega)).1 (fun hf u0 u1 u2 u3 u4 u5 hu => hnext (by omega) (hone (by omega) (by (try simp only [Int.toNat_natCast, tn_sub1, tn_add1] at *); omega)) (fun j hj => Decidable.not_not.1 h j hj) hf u0 u1 u2 u3 u4 u5 hu _) (fun h9 => hfail (by omega) fun h8 => h9 h8.2.2) 0 (by omega) (fun k hk => by omega) _ _ _ _ _ _ ht 0 _ rfl
theorem s_PlanOkI (s : List TPkg) (hs : s.length ≤ 2000000) (hp0 : PL s) : Ex (fun m => callF prg m 41 [.sl 4 (s.map ePkg)] []) (bB (planOk s)) [] := by
  refine ev_is.1 ?_
  (refine U41 (nl := 0) rfl ?_; unfold B41)
  repeat' (first | ((with_reducible refine eL ?_); first | ((with_reducible refine ev_lenm ?_ ?_); · rfl) | refine ev_lenom rfl rfl ?_ | refine ev_lenfm rfl rfl ?_ | refine ev_lenoc rfl rfl rfl ?_ | refine ev_lenc rfl rfl ?_ | refine ev_leno rfl rfl ?_ | refine ev_slen rfl ?_ | refine ev_bd rfl ?_ | refine ev_bd0 rfl ?_) | ((with_reducible refine eC ?_); first | ((refine ev_callB (s_StoreOkI s hs hp0) rfl rfl ?_ rfl rfl ?_ ?_); (focus first | exact .inl rfl | exact .inr rfl | (refine .inr ?_; simp [flagC, ownF, hasSl3, hasSl1, SO.hasSl, List.all_map, flatSV, SV.cells, Function.comp_def]; done)); (all_goals (intro h)); (all_goals (try (exfalso; simp_all; done))))) | ((with_reducible refine eK ?_); first | (with_reducible first | refine ev_ct ?_ | refine ev_cf ?_) | ((with_reducible refine ev_cond ?_ ?_) <;> intro h)) | ((with_reducible refine eO ?_); first | refine ev_bd rfl ?_ | (refine ev_bdB rfl ?_ ?_ <;> intro h <;> try (exfalso; simp_all; done)) | refine ev_bd0 rfl ?_ | (refine ev_ldm rfl ?_ rfl ?_; (focus omega)) | (refine ev_ldmB rfl ?_ rfl ?_ ?_; (focus omega); (all_goals intro h))) | ((with_reducible refine eD ?_); first | refine ev_bd rfl ?_ | refine ev_bd0 rfl ?_) | ((with_reducible refine eH ?_); first | refine ev_gcB rfl ?_) | (with_reducible first | refine UL41_5 ?_ | refine VL41_5 ?_) | ( exact s_PlanOkI_L5 s hs hp0 (by assumption) 0 (by omega) (fun j hj => by omega) _ _ _ _ _ _ (by (intro x h1 h2); (constructor); (· intro h9; simp [sel6] at h9); (· rintro (⟨j, hj, -⟩ | ⟨j, hj, -⟩) <;> omega)) 0 _ rfl) | refine ev_ret rfl ?_)
  all_goals first
    | (refine ⟨congrArg bB ?_, rfl⟩; simp [planOk, *]; done)
    | trace_state
end Go.Proofs.Ytbagbhbplhkjaaa

/- What is to be in for a name to be: what the reference gives. -/
namespace Go.Proofs.Ytbagbhbplhkjaaa
open Go
set_option linter.unusedVariables false
set_option linter.unusedSimpArgs false
set_option maxHeartbeats 4000000
def pickP (st hv : List TPkg) (n : Int) : TPkg × Bool :=
  if (newestP st n).2 = true ∧ ((newestP hv n).2 = false ∨ (newestP hv n).1.ver < (newestP st n).1.ver) then ((newestP st n).1, true) else newestP hv n
theorem pick_true {st hv : List TPkg} {n : Int} {p : TPkg} (h : pickP st hv n = (p, true)) : p.name = n ∧ (p ∈ st ∨ p ∈ hv) := by
  unfold pickP at h
  split at h
  · rename_i h0
    obtain ⟨rfl, -⟩ := Prod.mk.inj h
    obtain ⟨h1, h2, -⟩ := newest_true (s := st) (name := n) (p := (newestP st n).1) (Prod.ext rfl h0.1)
    exact ⟨h2, .inl h1⟩
  · obtain ⟨h1, h2, -⟩ := newest_true h
    exact ⟨h2, .inr h1⟩
inductive Reach (st hv : List TPkg) (name : Int) : Int → Prop
  | this : Reach st hv name name
  | was {p : TPkg} : p ∈ hv → Reach st hv name p.name
  | need {n : Int} {p : TPkg} {d : TDep} : Reach st hv name n → pickP st hv n = (p, true) → d ∈ p.deps → Reach st hv name d.name
noncomputable def reachB (st hv : List TPkg) (name n : Int) : Bool := @decide (Reach st hv name n) (Classical.propDecidable _)
theorem reachB_iff {st hv : List TPkg} {name n : Int} : reachB st hv name n = true ↔ Reach st hv name n := by
  unfold reachB; exact @decide_eq_true_iff _ (Classical.propDecidable _)
def allPick (st hv : List TPkg) (name : Int) : Prop := ∀ n, Reach st hv name n → (pickP st hv n).2 = true
noncomputable def outP (st hv : List TPkg) (name : Int) : List TPkg := (([1, 2, 3, 4] : List Int).filter (reachB st hv name)).map fun n => (pickP st hv n).1
open Classical in
noncomputable def forP (st hv : List TPkg) (name : Int) : List TPkg × Bool := if allPick st hv name ∧ planOk (outP st hv name) = true then (outP st hv name, true) else ([], false)
def srt (l : List TPkg) : Prop := l.Pairwise fun a b => a.name < b.name
theorem srt_ext : ∀ {l m : List TPkg}, srt l → srt m → (∀ x, x ∈ l ↔ x ∈ m) → l = m
  | [], [], _, _, _ => rfl
  | [], y :: m, _, _, h => by have := (h y).2 (by simp); cases this
  | x :: l, [], _, _, h => by have := (h x).1 (by simp); cases this
  | x :: l, y :: m, h1, h2, h => by
    obtain ⟨a1, a2⟩ := List.pairwise_cons.1 h1
    obtain ⟨b1, b2⟩ := List.pairwise_cons.1 h2
    have e : x = y := by
      rcases List.mem_cons.1 ((h x).1 (by simp)) with e | hx
      · exact e
      · rcases List.mem_cons.1 ((h y).2 (by simp)) with e | hy
        · exact e.symm
        · have := a1 y hy; have := b1 x hx; omega
    subst e
    refine congrArg _ (srt_ext a2 b2 fun z => ?_)
    constructor
    · intro hz
      rcases List.mem_cons.1 ((h z).1 (List.mem_cons_of_mem _ hz)) with e | hz2
      · subst e; have := a1 _ hz; omega
      · exact hz2
    · intro hz
      rcases List.mem_cons.1 ((h z).2 (List.mem_cons_of_mem _ hz)) with e | hz2
      · subst e; have := b1 _ hz; omega
      · exact hz2
theorem reach_in {st hv : List TPkg} {name : Int} (hn : 1 ≤ name ∧ name ≤ 4) (ht : tames st) (ht2 : tames hv) {n : Int} (h : Reach st hv name n) : 1 ≤ n ∧ n ≤ 4 := by
  cases h with
  | this => exact hn
  | was hp => exact (ht2 _ hp).1
  | need h1 h2 h3 =>
    rcases (pick_true h2).2 with e | e
    · exact (ht _ e).2 _ h3
    · exact (ht2 _ e).2 _ h3
theorem outP_mem {st hv : List TPkg} {name : Int} (hn : 1 ≤ name ∧ name ≤ 4) (ht : tames st) (ht2 : tames hv) (ha : allPick st hv name) {p : TPkg} : p ∈ outP st hv name ↔ Reach st hv name p.name ∧ pickP st hv p.name = (p, true) := by
  unfold outP
  rw [List.mem_map]
  constructor
  · rintro ⟨n, h1, rfl⟩
    obtain ⟨-, h2⟩ := List.mem_filter.1 h1
    have h3 := reachB_iff.1 h2
    have h4 : pickP st hv n = ((pickP st hv n).1, true) := Prod.ext rfl (ha n h3)
    have h5 := (pick_true h4).1
    rw [h5]; exact ⟨h3, h4⟩
  · rintro ⟨h1, h2⟩
    have h3 := reach_in hn ht ht2 h1
    refine ⟨p.name, List.mem_filter.2 ⟨?_, reachB_iff.2 h1⟩, by rw [h2]⟩
    simp only [List.mem_cons, List.not_mem_nil, or_false]; omega
theorem outP_srt {st hv : List TPkg} {name : Int} (ha : allPick st hv name) : srt (outP st hv name) := by
  unfold outP srt
  rw [List.pairwise_map]
  have h1 : (([1, 2, 3, 4] : List Int).filter (reachB st hv name)).Pairwise (· < ·) := List.Pairwise.filter _ (by decide)
  refine List.Pairwise.imp_of_mem ?_ h1
  intro a b h2 h3 h4
  have key : ∀ n, n ∈ ([1, 2, 3, 4] : List Int).filter (reachB st hv name) → (pickP st hv n).1.name = n := fun n hn => by
    have h3 := reachB_iff.1 (List.mem_filter.1 hn).2
    exact (pick_true (p := (pickP st hv n).1) (Prod.ext rfl (ha n h3))).1
  rw [key a h2, key b h3]; exact h4
structure ForInv (st hv : List TPkg) (name : Int) (w : List Bool) (out : List TPkg) : Prop where
  len : w.length = 5
  sound : ∀ x : Int, 1 ≤ x → x ≤ 4 → nth w x.toNat = true → Reach st hv name x
  nm : nth w name.toNat = true
  hvs : ∀ p, p ∈ hv → nth w p.name.toNat = true
  deps : ∀ p, p ∈ out → ∀ d, d ∈ p.deps → nth w d.name.toNat = true
  outp : ∀ p, p ∈ out → pickP st hv p.name = (p, true) ∧ (1 ≤ p.name ∧ p.name ≤ 4) ∧ Reach st hv name p.name
  so : srt out
theorem ForInv.all {st hv : List TPkg} {name : Int} {w : List Bool} {out : List TPkg} (h : ForInv st hv name w out) (hn : 1 ≤ name ∧ name ≤ 4) (ht : tames st) (ht2 : tames hv) (hd : ∀ m : Int, 1 ≤ m → m < 5 → nth w m.toNat = true → ∃ p, p ∈ out ∧ p.name = m) :
    allPick st hv name ∧ out = outP st hv name := by
  have key : ∀ n, Reach st hv name n → nth w n.toNat = true := by
    intro n hr
    induction hr with
    | this => exact h.nm
    | was hp => exact h.hvs _ hp
    | need h1 h2 h3 ih =>
      have hb := reach_in hn ht ht2 h1
      obtain ⟨q, hq, e⟩ := hd _ hb.1 (by omega) ih
      have h4 := (h.outp q hq).1
      rw [e, h2] at h4
      obtain ⟨rfl, -⟩ := Prod.mk.inj h4
      exact h.deps _ hq _ h3
  have hin : ∀ n, Reach st hv name n → ∃ p, p ∈ out ∧ p.name = n := fun n hr => by
    have hb := reach_in hn ht ht2 hr
    exact hd n hb.1 (by omega) (key n hr)
  have ha : allPick st hv name := fun n hr => by
    obtain ⟨p, hp, rfl⟩ := hin n hr
    rw [(h.outp p hp).1]
  refine ⟨ha, srt_ext h.so (outP_srt ha) fun x => ?_⟩
  rw [outP_mem hn ht ht2 ha]
  constructor
  · intro hx; exact ⟨(h.outp x hx).2.2, (h.outp x hx).1⟩
  · rintro ⟨h1, h2⟩
    obtain ⟨p, hp, e⟩ := hin _ h1
    have h4 := (h.outp p hp).1
    rw [e, h2] at h4
    obtain ⟨rfl, -⟩ := Prod.mk.inj h4
    exact hp
end Go.Proofs.Ytbagbhbplhkjaaa

/- Drawn packages that can be in together. -/
namespace Go.Proofs.Ytbagbhbplhkjaaa
open Go
set_option linter.unusedVariables false
set_option linter.unusedSimpArgs false
set_option maxHeartbeats 40000000
def Res4 (j : Nat) (s : List TPkg) (x : SV) (t : List SO) : Prop := (x = .osl j ∧ t = [.arr false 4 (s.map ePkg)]) ∨ (x = .sl 4 (s.map ePkg) ∧ t = [])
def Arr4 (s : List TPkg) (o : SO) : Prop := o = .arr false 4 (s.map ePkg) ∨ o = .frz 4 (s.map ePkg)
end Go.Proofs.Ytbagbhbplhkjaaa

/- Packages that can be in together, as a law of lists; one less. -/
namespace Go.Proofs.Ytbagbhbplhkjaaa
open Go
set_option linter.unusedVariables false
set_option linter.unusedSimpArgs false
def apart (s : List TPkg) : Prop := s.Pairwise fun p q => ∀ f, f ∈ p.files → ∀ g, g ∈ q.files → g.path ≠ f.path
def neededP (s : List TPkg) (k : Nat) : Prop := ∃ i, i < s.length ∧ i ≠ k ∧ ∃ d, d ∈ (nth s i).deps ∧ d.name = (nth s k).name
end Go.Proofs.Ytbagbhbplhkjaaa

/- What is at each place. -/
namespace Go.Proofs.Ytbagbhbplhkjaaa
open Go
set_option linter.unusedVariables false
set_option linter.unusedSimpArgs false
set_option maxHeartbeats 4000000
set_option maxRecDepth 100000
def putF (w : List Int) (F : List TFile) : List Int := F.foldl (fun w f => w.set f.path.toNat f.data) w
def none6 : List Int := [-1, -1, -1, -1, -1, -1]
def filesTo (s : List TPkg) (i : Nat) : List Int := (s.take i).foldl (fun w p => putF w p.files) none6
def filesP (s : List TPkg) : List Int := s.foldl (fun w p => putF w p.files) none6
def planFiles (s : List TPkg) : List Int := if planOk s = true then filesP s else []
def pathsIn (s : List TPkg) : Prop := ∀ i, i < s.length → ∀ j, j < (nth s i).files.length → 0 ≤ (nth (nth s i).files j).path ∧ (nth (nth s i).files j).path ≤ 5
end Go.Proofs.Ytbagbhbplhkjaaa
