/- The evaluator S and what it says of functions: V20, V22, W1, Vd, V21. -/
import Derived.Test.YtikennabfbkdhaaV7
import Derived.Test.YtikennabfbkdhaaV2
import Derived.Test.YtikennabfbkdhaaV3
/- Packages in a store: the program's functions, the newest, the same. -/
namespace Go.Proofs.Ytikennabfbkdhaa
open Go
set_option linter.unusedVariables false
set_option linter.unusedSimpArgs false
set_option maxHeartbeats 4000000
theorem s_PkgOkI_L10 (name ver : Int) (F : List TFile) (D : List TDep) (hD : D.length ≤ 2000000) : ∀ i, i ≤ D.length → (∀ j, j < i → depAt name D j) → ∀ (k : Int) (c : Nat), k = i →
    Ev (fun n => G52_10 (callF prg n) (n + 1) 0 (n + 1 - c) [.ptr 0 0, .sl 2 (D.map eDep), iI D.length, iI k] [.box [iI name, iI ver, .sl 2 (F.map eFile), .sl 2 (D.map eDep)]]) (Is (bB (depsAt name D)) []) := by
  refine up_ind ?_
  intro i hi ih hp k c hk
  subst hk
  (refine UG52_10 _ ?_; unfold GB52_10)
  repeat' (first | ((with_reducible refine eG ?_); first | (with_reducible first | refine ev_gtt ?_ | refine ev_gff ?_ | refine ev_gtf ?_ | refine ev_gft ?_ | refine ev_gu ?_) | refine ev_bd rfl ?_ | refine ev_bd0 rfl ?_ | ((with_reducible refine ev_gB ?_ ?_) <;> intro h)) | ((with_reducible refine eB ?_); first | ((with_reducible first | refine ev_lss ?_ ?_ | refine ev_leq ?_ ?_ | refine ev_gtr ?_ ?_ | refine ev_eql ?_ ?_) <;> intro h <;> try (exfalso; omega)) | ((with_reducible first | refine ev_add ?_ ?_ | refine ev_sub ?_ ?_); · omega) | refine ev_bd rfl ?_ | refine ev_bd0 rfl ?_) | ((with_reducible refine eI ?_); first | ((with_reducible refine ev_idxn ?_ ?_ ?_); (· rfl); · omega) | (refine ev_idxon rfl rfl ?_ ?_; (· first | omega | (simp only [List.length_cons, List.length_nil, List.length_map, List.length_append]; omega))) | (refine ev_idxfn rfl rfl ?_ ?_; (focus omega)) | ((with_reducible refine ev_idx ?_ ?_ ?_); (· rfl); · omega) | (refine ev_idxo rfl rfl ?_ ?_; (· first | omega | (simp only [List.length_cons, List.length_nil, List.length_map, List.length_append]; omega))) | (refine ev_idxf rfl rfl ?_ ?_; (focus omega)) | refine ev_bd rfl ?_ | refine ev_bd0 rfl ?_) | ((with_reducible refine eC ?_); first | ((refine ev_callD (s_isName ..) rfl rfl ?_ rfl rfl ?_ ?_); (focus first | exact .inl rfl | exact .inr rfl | (refine .inr ?_; simp [flagC, ownF, hasSl3, hasSl1, SO.hasSl, List.all_map, flatSV, SV.cells, Function.comp_def]; done)); (all_goals (intro h)); (all_goals (try (exfalso; first | omega | exact h rfl | exact h ⟨rfl, rfl, rfl⟩)))) | ((refine ev_callD (s_isVer ..) rfl rfl ?_ rfl rfl ?_ ?_); (focus first | exact .inl rfl | exact .inr rfl | (refine .inr ?_; simp [flagC, ownF, hasSl3, hasSl1, SO.hasSl, List.all_map, flatSV, SV.cells, Function.comp_def]; done)); (all_goals (intro h)); (all_goals (try (exfalso; first | omega | exact h rfl | exact h ⟨rfl, rfl, rfl⟩))))) | ((with_reducible refine eK ?_); first | (with_reducible first | refine ev_ct ?_ | refine ev_cf ?_) | ((with_reducible refine ev_cond ?_ ?_) <;> intro h)) | ((with_reducible refine eO ?_); first | refine ev_bd rfl ?_ | (refine ev_bdB rfl ?_ ?_ <;> intro h <;> try (exfalso; simp_all; done)) | refine ev_bd0 rfl ?_ | (refine ev_ldm rfl ?_ rfl ?_; (focus omega)) | (refine ev_ldmB rfl ?_ rfl ?_ ?_; (focus omega); (all_goals intro h))) | ((with_reducible refine eD ?_); first | refine ev_bd rfl ?_ | refine ev_bd0 rfl ?_ | ((with_reducible refine ev_pickB ?_ ?_) <;> intro h)) | ((with_reducible refine eH ?_); first | refine ev_gcB rfl ?_) | (with_reducible first | refine UL52_10 ?_ | refine VL52_10 ?_) | ((with_reducible refine ih ?_ (all_step hp ?_) _ _ ?_) <;> (first | omega | assumption | ((unfold depAt; (try simp only [Int.toNat_natCast, tn_sub1, tn_add1] at *); omega)) | (simp only [*, List.map_append, List.length_append, List.length_cons, List.length_nil, List.map_cons, List.map_nil]; done) | (simp_all; done) | (simp_all; omega))) | refine ev_ret rfl ?_)
  all_goals first | exact ⟨congrArg bB (Eq.symm (all_true hp (by omega))), rfl⟩ | exact ⟨congrArg bB (Eq.symm (all_false (i := i) (by omega) (by unfold depAt; (try simp only [Int.toNat_natCast, tn_sub1, tn_add1] at *); omega))), rfl⟩ | trace_state
theorem s_PkgOkI_L4 (name ver : Int) (F : List TFile) (D : List TDep) (hF : F.length ≤ 2000000) (hD : D.length ≤ 2000000) : ∀ i, i ≤ F.length → (∀ j, j < i → fileAt F j) → ∀ (k : Int) (c : Nat), k = i →
    Ev (fun n => G52_4 (callF prg n) (n + 1) 0 (n + 1 - c) [.ptr 0 0, .sl 2 (F.map eFile), iI F.length, iI k] [.box [iI name, iI ver, .sl 2 (F.map eFile), .sl 2 (D.map eDep)]]) (Is (bB (filesAt F && depsAt name D)) []) := by
  refine up_ind ?_
  intro i hi ih hp k c hk
  subst hk
  (refine UG52_4 _ ?_; unfold GB52_4)
  repeat' (first | ((with_reducible refine eG ?_); first | (with_reducible first | refine ev_gtt ?_ | refine ev_gff ?_ | refine ev_gtf ?_ | refine ev_gft ?_ | refine ev_gu ?_) | refine ev_bd rfl ?_ | refine ev_bd0 rfl ?_ | ((with_reducible refine ev_gB ?_ ?_) <;> intro h)) | ((with_reducible refine eB ?_); first | ((with_reducible first | refine ev_lss ?_ ?_ | refine ev_leq ?_ ?_ | refine ev_gtr ?_ ?_) <;> intro h <;> try (exfalso; omega)) | ((with_reducible first | refine ev_add ?_ ?_ | refine ev_sub ?_ ?_); · omega) | refine ev_bd rfl ?_ | refine ev_bd0 rfl ?_) | ((with_reducible refine eL ?_); first | ((with_reducible refine ev_lenm ?_ ?_); · rfl) | refine ev_lenom rfl rfl ?_ | refine ev_lenfm rfl rfl ?_ | refine ev_lenoc rfl rfl rfl ?_ | refine ev_lenc rfl rfl ?_ | refine ev_leno rfl rfl ?_ | refine ev_slen rfl ?_ | refine ev_bd rfl ?_ | refine ev_bd0 rfl ?_) | ((with_reducible refine eI ?_); first | ((with_reducible refine ev_idxn ?_ ?_ ?_); (· rfl); · omega) | (refine ev_idxon rfl rfl ?_ ?_; (· first | omega | (simp only [List.length_cons, List.length_nil, List.length_map, List.length_append]; omega))) | (refine ev_idxfn rfl rfl ?_ ?_; (focus omega)) | ((with_reducible refine ev_idx ?_ ?_ ?_); (· rfl); · omega) | (refine ev_idxo rfl rfl ?_ ?_; (· first | omega | (simp only [List.length_cons, List.length_nil, List.length_map, List.length_append]; omega))) | (refine ev_idxf rfl rfl ?_ ?_; (focus omega)) | refine ev_bd rfl ?_ | refine ev_bd0 rfl ?_) | ((with_reducible refine eC ?_); first | ((refine ev_callD (s_in ..) rfl rfl ?_ rfl rfl ?_ ?_); (focus first | exact .inl rfl | exact .inr rfl | (refine .inr ?_; simp [flagC, ownF, hasSl3, hasSl1, SO.hasSl, List.all_map, flatSV, SV.cells, Function.comp_def]; done)); (all_goals (intro h)); (all_goals (try (exfalso; first | omega | exact h rfl | exact h ⟨rfl, rfl, rfl⟩))))) | ((with_reducible refine eK ?_); first | (with_reducible first | refine ev_ct ?_ | refine ev_cf ?_) | ((with_reducible refine ev_cond ?_ ?_) <;> intro h)) | ((with_reducible refine eO ?_); first | refine ev_bd rfl ?_ | (refine ev_bdB rfl ?_ ?_ <;> intro h <;> try (exfalso; simp_all; done)) | refine ev_bd0 rfl ?_ | (refine ev_ldm rfl ?_ rfl ?_; (focus omega)) | (refine ev_ldmB rfl ?_ rfl ?_ ?_; (focus omega); (all_goals intro h))) | ((with_reducible refine eD ?_); first | refine ev_bd rfl ?_ | refine ev_bd0 rfl ?_ | ((with_reducible refine ev_pickB ?_ ?_) <;> intro h)) | ((with_reducible refine eH ?_); first | refine ev_gcB rfl ?_) | (with_reducible first | refine UL52_4 ?_ | refine VL52_4 ?_) | (with_reducible first | refine UL52_10 ?_ | refine VL52_10 ?_) | ((with_reducible refine ih ?_ (all_step hp ?_) _ _ ?_) <;> (first | omega | assumption | ((unfold fileAt; (try simp only [Int.toNat_natCast, tn_sub1, tn_add1] at *); omega)) | (simp only [*, List.map_append, List.length_append, List.length_cons, List.length_nil, List.map_cons, List.map_nil]; done) | (simp_all; done) | (simp_all; omega))) | ( ((rw [show (filesAt F && depsAt name D) = depsAt name D by rw [show filesAt F = true from all_true hp (by omega), Bool.true_and]]); exact s_PkgOkI_L10 name ver F D hD 0 (by omega) (fun j hj => by omega) 0 _ rfl)) | refine ev_ret rfl ?_)
  all_goals first
    | (have hm : filesAt F = false := all_false (i := i) (by omega) (by unfold fileAt; (try simp only [Int.toNat_natCast, tn_sub1, tn_add1] at *); omega)
       exact ⟨congrArg bB (by simp [hm]), rfl⟩)
    | trace_state
theorem s_PkgOkI (name ver : Int) (F : List TFile) (D : List TDep) (hF : F.length ≤ 2000000) (hD : D.length ≤ 2000000) : Ex (fun m => callF prg m 52 [.ag [iI name, iI ver, .sl 2 (F.map eFile), .sl 2 (D.map eDep)]] []) (bB (pkgOk ⟨name, ver, F, D⟩)) [] := by
  refine ev_is.1 ?_
  (refine U52 (nl := 0) rfl ?_; unfold B52)
  repeat' (first | ((with_reducible refine eG ?_); first | (with_reducible first | refine ev_gtt ?_ | refine ev_gff ?_ | refine ev_gtf ?_ | refine ev_gft ?_ | refine ev_gu ?_) | refine ev_bd rfl ?_ | refine ev_bd0 rfl ?_ | ((with_reducible refine ev_gB ?_ ?_) <;> intro h)) | ((with_reducible refine eB ?_); first | ((with_reducible refine ev_gtr ?_ ?_) <;> intro h <;> try (exfalso; omega)) | refine ev_bd rfl ?_ | refine ev_bd0 rfl ?_) | ((with_reducible refine eL ?_); first | ((with_reducible refine ev_lenm ?_ ?_); · rfl) | refine ev_lenom rfl rfl ?_ | refine ev_lenfm rfl rfl ?_ | refine ev_lenoc rfl rfl rfl ?_ | refine ev_lenc rfl rfl ?_ | refine ev_leno rfl rfl ?_ | refine ev_slen rfl ?_ | refine ev_bd rfl ?_ | refine ev_bd0 rfl ?_) | ((with_reducible refine eC ?_); first | ((refine ev_callD (s_isName ..) rfl rfl ?_ rfl rfl ?_ ?_); (focus first | exact .inl rfl | exact .inr rfl | (refine .inr ?_; simp [flagC, ownF, hasSl3, hasSl1, SO.hasSl, List.all_map, flatSV, SV.cells, Function.comp_def]; done)); (all_goals (intro h)); (all_goals (try (exfalso; first | omega | exact h rfl | exact h ⟨rfl, rfl, rfl⟩)))) | ((refine ev_callD (s_isVer ..) rfl rfl ?_ rfl rfl ?_ ?_); (focus first | exact .inl rfl | exact .inr rfl | (refine .inr ?_; simp [flagC, ownF, hasSl3, hasSl1, SO.hasSl, List.all_map, flatSV, SV.cells, Function.comp_def]; done)); (all_goals (intro h)); (all_goals (try (exfalso; first | omega | exact h rfl | exact h ⟨rfl, rfl, rfl⟩))))) | ((with_reducible refine eK ?_); first | (with_reducible first | refine ev_ct ?_ | refine ev_cf ?_) | ((with_reducible refine ev_cond ?_ ?_) <;> intro h)) | ((with_reducible refine eO ?_); first | refine ev_bd rfl ?_ | (refine ev_bdB rfl ?_ ?_ <;> intro h <;> try (exfalso; simp_all; done)) | refine ev_bd0 rfl ?_ | (refine ev_ldm rfl ?_ rfl ?_; (focus omega)) | (refine ev_ldmB rfl ?_ rfl ?_ ?_; (focus omega); (all_goals intro h))) | ((with_reducible refine eD ?_); first | refine ev_bd rfl ?_ | refine ev_bd0 rfl ?_ | ((with_reducible refine ev_pickB ?_ ?_) <;> intro h)) | ((with_reducible refine eH ?_); first | refine ev_gcB rfl ?_) | (with_reducible first | refine UL52_4 ?_ | refine VL52_4 ?_) | ( ((rw [show pkgOk ⟨name, ver, F, D⟩ = (filesAt F && depsAt name D) by (simp only [pkgOk, filesOk, depsOk]; rw [decide_eq_true (by omega : 1 ≤ name ∧ name ≤ 4), decide_eq_true (by omega : 1 ≤ ver ∧ ver ≤ 5), decide_eq_true (by omega : F.length ≤ 2), decide_eq_true (by omega : D.length ≤ 2)]; simp)]); exact s_PkgOkI_L4 name ver F D hF hD 0 (by omega) (fun j hj => by omega) 0 1 rfl)) | refine ev_ret rfl ?_)
  all_goals (refine ⟨congrArg (fun b => SV.v (Value.bool b)) ?_, rfl⟩; first | (simp_all [pkgOk, filesOk, depsOk]; done) | (simp_all [pkgOk, filesOk, depsOk]; omega) | (simp [pkgOk, filesOk, depsOk] at *; omega) | (simp [pkgOk, filesOk, depsOk]; omega) | grind [pkgOk, filesOk, depsOk] | trace_state)
def cmpI (a b : Int) : Int := if a < b then -1 else if b < a then 1 else 0
theorem s_isNaN (a : Int) : Ex (fun m => callF prg m 87 [iI a] []) (bB false) [] := by
  refine ev_is.1 ?_
  (refine U87 (nl := 0) rfl ?_; unfold B87)
  repeat' (first | ((with_reducible refine eB ?_); first | ((with_reducible refine ev_neq ?_ ?_) <;> intro h <;> try (exfalso; omega)) | refine ev_bd rfl ?_ | refine ev_bd0 rfl ?_) | ((with_reducible refine eD ?_); first | refine ev_bd rfl ?_ | refine ev_bd0 rfl ?_) | refine ev_ret rfl ?_)
  all_goals first | exact ⟨rfl, rfl⟩ | (exfalso; omega) | trace_state
theorem s_Compare (a b : Int) : Ex (fun m => callF prg m 72 [iI a, iI b] []) (iI (cmpI a b)) [] := by
  refine ev_is.1 ?_
  (refine U72 (nl := 0) rfl ?_; unfold B72)
  repeat' (first | ((with_reducible refine eB ?_); first | ((with_reducible first | refine ev_lss ?_ ?_ | refine ev_gtr ?_ ?_) <;> intro h <;> try (exfalso; omega)) | refine ev_bd rfl ?_ | refine ev_bd0 rfl ?_) | ((with_reducible refine eC ?_); first | ((refine ev_call (s_isNaN ..) rfl rfl ?_ rfl ?_); (focus first | exact .inl rfl | exact .inr rfl | (refine .inr ?_; simp [flagC, ownF, hasSl3, hasSl1, SO.hasSl, List.all_map, flatSV, SV.cells, Function.comp_def]; done)))) | ((with_reducible refine eK ?_); first | (with_reducible first | refine ev_ct ?_ | refine ev_cf ?_) | ((with_reducible refine ev_cond ?_ ?_) <;> intro h)) | ((with_reducible refine eD ?_); first | refine ev_bd rfl ?_ | refine ev_bd0 rfl ?_) | refine ev_ret rfl ?_)
  all_goals exact ⟨congrArg iI (by unfold cmpI; repeat' split <;> omega), rfl⟩
theorem s_Or2 (a b : Int) : Ex (fun m => callF prg m 71 [.sl 1 [iI a, iI b]] []) (iI (if a ≠ 0 then a else b)) [] := by
  refine ev_is.1 ?_
  (refine U71 (nl := 0) rfl ?_; unfold B71)
  repeat' (first | ((with_reducible refine eB ?_); first | ((with_reducible first | refine ev_lss ?_ ?_ | refine ev_neq ?_ ?_) <;> intro h <;> try (exfalso; omega)) | ((with_reducible refine ev_add ?_ ?_); · omega) | refine ev_bd rfl ?_ | refine ev_bd0 rfl ?_) | ((with_reducible refine eL ?_); first | ((with_reducible refine ev_lenm ?_ ?_); · rfl) | refine ev_lenom rfl rfl ?_ | refine ev_lenfm rfl rfl ?_ | refine ev_lenoc rfl rfl rfl ?_ | refine ev_lenc rfl rfl ?_ | refine ev_leno rfl rfl ?_ | refine ev_slen rfl ?_ | refine ev_bd rfl ?_ | refine ev_bd0 rfl ?_) | ((with_reducible refine eI ?_); first | ((with_reducible refine ev_idxn ?_ ?_ ?_); (· rfl); · omega) | (refine ev_idxon rfl rfl ?_ ?_; (· first | omega | (simp only [List.length_cons, List.length_nil, List.length_map, List.length_append]; omega))) | (refine ev_idxfn rfl rfl ?_ ?_; (focus omega)) | ((with_reducible refine ev_idx ?_ ?_ ?_); (· rfl); · omega) | (refine ev_idxo rfl rfl ?_ ?_; (· first | omega | (simp only [List.length_cons, List.length_nil, List.length_map, List.length_append]; omega))) | (refine ev_idxf rfl rfl ?_ ?_; (focus omega)) | refine ev_bd rfl ?_ | refine ev_bd0 rfl ?_) | ((with_reducible refine eK ?_); first | (with_reducible first | refine ev_ct ?_ | refine ev_cf ?_) | ((with_reducible refine ev_cond ?_ ?_) <;> intro h)) | ((with_reducible refine eO ?_); first | refine ev_bd rfl ?_ | (refine ev_bdB rfl ?_ ?_ <;> intro h <;> try (exfalso; simp_all; done)) | refine ev_bd0 rfl ?_ | (refine ev_ldm rfl ?_ rfl ?_; (focus omega)) | (refine ev_ldmB rfl ?_ rfl ?_ ?_; (focus omega); (all_goals intro h))) | ((with_reducible refine eD ?_); first | refine ev_bd rfl ?_ | refine ev_bd0 rfl ?_) | ((with_reducible first | refine UL71_3 ?_ | refine VL71_3 ?_); (unfold LB71_3)) | refine ev_ret rfl ?_)
  all_goals first | exact ⟨congrArg iI (by split <;> omega), rfl⟩ | trace_state
theorem s_compare (n v : Int) (F : List TFile) (D : List TDep) (n' v' : Int) (F' : List TFile) (D' : List TDep) : ∃ z : Int, ((z < 0 ↔ (n < n' ∨ n = n' ∧ v < v')) ∧ (z = 0 ↔ (n = n' ∧ v = v'))) ∧
    Ex (fun m => callF prg m 53 [.ag [iI n, iI v, .sl 2 (F.map eFile), .sl 2 (D.map eDep)], .ag [iI n', iI v', .sl 2 (F'.map eFile), .sl 2 (D'.map eDep)]] []) (iI z) [] := by
  refine ⟨if cmpI n n' ≠ 0 then cmpI n n' else cmpI v v', ?_, ev_is.1 ?_⟩
  · unfold cmpI
    repeat' split
    all_goals omega
  · (refine U53 (nl := 0) rfl ?_; unfold B53)
    repeat' (first | ((with_reducible refine eC ?_); first | ((refine ev_call (s_Compare ..) rfl rfl ?_ rfl ?_); (focus first | exact .inl rfl | exact .inr rfl | (refine .inr ?_; simp [flagC, ownF, hasSl3, hasSl1, SO.hasSl, List.all_map, flatSV, SV.cells, Function.comp_def]; done))) | ((refine ev_call (s_Or2 ..) rfl rfl ?_ rfl ?_); (focus first | exact .inl rfl | exact .inr rfl | (refine .inr ?_; simp [flagC, ownF, hasSl3, hasSl1, SO.hasSl, List.all_map, flatSV, SV.cells, Function.comp_def]; done)))) | ((with_reducible refine eO ?_); first | refine ev_bd rfl ?_ | (refine ev_bdB rfl ?_ ?_ <;> intro h <;> try (exfalso; simp_all; done)) | refine ev_bd0 rfl ?_ | (refine ev_ldm rfl ?_ rfl ?_; (focus omega)) | (refine ev_ldmB rfl ?_ rfl ?_ ?_; (focus omega); (all_goals intro h)) | (refine ev_ldz rfl rfl rfl ?_ ?_ ?_; (· simp); (· first | omega | (simp only [List.length_cons, List.length_nil, List.length_map, List.length_append]; omega)); intro w)) | ((with_reducible refine eD ?_); first | refine ev_bd rfl ?_ | refine ev_bd0 rfl ?_) | ((with_reducible refine ev_dchk ?_ ?_); · intro _; rfl) | refine ev_ret rfl ?_)
    all_goals exact ⟨rfl, rfl⟩
theorem s_StoreOkI_L (s : List TPkg) (hs : s.length ≤ 2000000) (hp0 : PL s) : ∀ i, i ≤ s.length → (∀ j, j < i → pkgAt s j) → ∀ (k : Int) (c : Nat), k = i →
    Ev (fun n => G38_2 (callF prg n) (n + 1) 0 (n + 1 - c) [.sl 4 (s.map ePkg), .sl 4 (s.map ePkg), iI s.length, iI k] []) (Is (bB (storeOk s)) []) := by
  refine up_ind ?_
  intro i hi ih hp k c hk
  subst hk
  (refine UG38_2 _ ?_; unfold GB38_2)
  repeat' (first | ((with_reducible refine eG ?_); first | (with_reducible first | refine ev_gtt ?_ | refine ev_gff ?_ | refine ev_gtf ?_ | refine ev_gft ?_ | refine ev_gu ?_) | refine ev_bd rfl ?_ | refine ev_bd0 rfl ?_ | ((with_reducible refine ev_gB ?_ ?_) <;> intro h)) | ((with_reducible refine eB ?_); first | ((with_reducible first | refine ev_lss ?_ ?_ | refine ev_gtr ?_ ?_ | refine ev_geq ?_ ?_) <;> intro h <;> try (exfalso; omega)) | ((with_reducible first | refine ev_add ?_ ?_ | refine ev_sub ?_ ?_); · omega) | refine ev_bd rfl ?_ | refine ev_bd0 rfl ?_) | ((with_reducible refine eI ?_); first | ((with_reducible refine ev_idxn ?_ ?_ ?_); (· rfl); · omega) | (refine ev_idxon rfl rfl ?_ ?_; (· first | omega | (simp only [List.length_cons, List.length_nil, List.length_map, List.length_append]; omega))) | (refine ev_idxfn rfl rfl ?_ ?_; (focus omega)) | ((with_reducible refine ev_idx ?_ ?_ ?_); (· rfl); · omega) | (refine ev_idxo rfl rfl ?_ ?_; (· first | omega | (simp only [List.length_cons, List.length_nil, List.length_map, List.length_append]; omega))) | (refine ev_idxf rfl rfl ?_ ?_; (focus omega)) | refine ev_bd rfl ?_ | refine ev_bd0 rfl ?_) | ((with_reducible refine eC ?_); first | ((refine ev_callB (s_PkgOkI _ _ _ _ (hp0 _).1 (hp0 _).2) rfl rfl ?_ rfl rfl ?_ ?_); (focus first | exact .inl rfl | exact .inr rfl | (refine .inr ?_; simp [flagC, ownF, hasSl3, hasSl1, SO.hasSl, List.all_map, flatSV, SV.cells, Function.comp_def]; done)); (all_goals (intro h)); (all_goals (try (exfalso; simp_all; done)))) | ((refine ev_callN (s_compare _ _ _ _ _ _ _ _) rfl rfl ?_ (fun _ => rfl) ?_); (· first | exact .inl rfl | exact .inr (fun _ => rfl)); (first | (have q0 := z3; clear q0; intro z4 hz4) | (have q0 := z2; clear q0; intro z3 hz3) | (have q0 := z; clear q0; intro z2 hz2) | (intro z hz)))) | ((with_reducible refine eK ?_); first | (with_reducible first | refine ev_ct ?_ | refine ev_cf ?_) | ((with_reducible refine ev_cond ?_ ?_) <;> intro h)) | ((with_reducible refine eO ?_); first | refine ev_bd rfl ?_ | (refine ev_bdB rfl ?_ ?_ <;> intro h <;> try (exfalso; simp_all; done)) | refine ev_bd0 rfl ?_ | (refine ev_ldm rfl ?_ rfl ?_; (focus omega)) | (refine ev_ldmB rfl ?_ rfl ?_ ?_; (focus omega); (all_goals intro h))) | ((with_reducible refine eD ?_); first | refine ev_bd rfl ?_ | refine ev_bd0 rfl ?_ | ((with_reducible refine ev_pickB ?_ ?_) <;> intro h)) | ((with_reducible refine eH ?_); first | refine ev_gcB rfl ?_) | (with_reducible first | refine UL38_2 ?_ | refine VL38_2 ?_) | ((with_reducible refine ih ?_ (all_step hp ?_) _ _ ?_) <;> (first | omega | assumption | ((refine ⟨by assumption, fun hi0 => ?_⟩; unfold pless; (try simp only [Int.toNat_natCast, tn_sub1, tn_add1] at *); omega)) | (simp only [*, List.map_append, List.length_append, List.length_cons, List.length_nil, List.map_cons, List.map_nil]; done) | (simp_all; done) | (simp_all; omega))) | refine ev_ret rfl ?_)
  all_goals first
    | exact ⟨congrArg bB (Eq.symm (all_true hp (by omega))), rfl⟩
    | (refine ⟨congrArg bB (Eq.symm (all_false (i := i) (by omega) ?_)), rfl⟩; intro hh; have h1 := hh.2 (by omega); unfold pless at h1; (try simp only [Int.toNat_natCast, tn_sub1, tn_add1] at *); omega)
    | (refine ⟨congrArg bB (Eq.symm (all_false (i := i) (by omega) ?_)), rfl⟩; intro hh; have h1 := hh.1; exact Bool.noConfusion (h1.symm.trans h))
    | trace_state
theorem s_StoreOkI (s : List TPkg) (hs : s.length ≤ 2000000) (hp0 : PL s) : Ex (fun m => callF prg m 38 [.sl 4 (s.map ePkg)] []) (bB (storeOk s)) [] := by
  refine ev_is.1 ?_
  (refine U38 (nl := 0) rfl ?_; unfold B38)
  repeat' (first | ((with_reducible refine eL ?_); first | ((with_reducible refine ev_lenm ?_ ?_); · rfl) | refine ev_lenom rfl rfl ?_ | refine ev_lenfm rfl rfl ?_ | refine ev_lenoc rfl rfl rfl ?_ | refine ev_lenc rfl rfl ?_ | refine ev_leno rfl rfl ?_ | refine ev_slen rfl ?_ | refine ev_bd rfl ?_ | refine ev_bd0 rfl ?_) | ((with_reducible refine eD ?_); first | refine ev_bd rfl ?_ | refine ev_bd0 rfl ?_) | ((with_reducible refine eH ?_); first | refine ev_gcB rfl ?_) | (with_reducible first | refine UL38_2 ?_ | refine VL38_2 ?_) | ( exact s_StoreOkI_L s hs hp0 0 (by omega) (fun j hj => by omega) 0 1 rfl) | refine ev_ret rfl ?_)
def newTo (s : List TPkg) (name : Int) : Nat → Int
  | 0 => -1
  | i + 1 => if (nth s i).name = name then i else newTo s name i
theorem newTo_yes {s : List TPkg} {name : Int} {i : Nat} (h : (nth s i).name = name) : newTo s name (i + 1) = i := by rw [newTo, if_pos h]
theorem newTo_no {s : List TPkg} {name : Int} {i : Nat} (h : (nth s i).name ≠ name) : newTo s name (i + 1) = newTo s name i := by rw [newTo, if_neg h]
theorem newTo_spec (s : List TPkg) (name : Int) : ∀ i, (newTo s name i = -1 ∧ ∀ j, j < i → (nth s j).name ≠ name) ∨ (0 ≤ newTo s name i ∧ newTo s name i < i ∧ (nth s (newTo s name i).toNat).name = name ∧ ∀ j : Nat, newTo s name i < j → j < i → (nth s j).name ≠ name)
  | 0 => .inl ⟨rfl, fun j hj => by omega⟩
  | i + 1 => by
    by_cases e : (nth s i).name = name
    · rw [newTo_yes e]
      exact .inr ⟨by omega, by omega, by simpa using e, fun j h1 h2 => by omega⟩
    · rw [newTo_no e]
      rcases newTo_spec s name i with ⟨h1, h2⟩ | ⟨h1, h2, h3, h4⟩
      · refine .inl ⟨h1, fun j hj => ?_⟩
        by_cases ej : j = i
        · subst ej; exact e
        · exact h2 j (by omega)
      · refine .inr ⟨h1, by omega, h3, fun j hj hj2 => ?_⟩
        by_cases ej : j = i
        · subst ej; exact e
        · exact h4 j hj (by omega)
def newIx (s : List TPkg) (name : Int) : Int := newTo s name s.length
def zPkg : TPkg := ⟨0, 0, [], []⟩
def newestP (s : List TPkg) (name : Int) : TPkg × Bool := if 0 ≤ newIx s name then (nth s (newIx s name).toNat, true) else (zPkg, false)
def storeNewest (s : List TPkg) (name : Int) : TPkg × Bool := if storeOk s = true then newestP s name else (zPkg, false)
def QNew (r : TPkg × Bool) : SV → List SO → Prop := fun x os => ∃ p ok, r = (p, ok) ∧ x = .tup [rPkg p 0 1, bB ok] ∧ os = oPkg p
end Go.Proofs.Ytikennabfbkdhaa

/- What holds of the newest in a store. -/
namespace Go.Proofs.Ytikennabfbkdhaa
open Go
set_option linter.unusedVariables false
set_option linter.unusedSimpArgs false
theorem storeOk_iff {s : List TPkg} : storeOk s = true ↔ ∀ i, i < s.length → pkgAt s i := by simp [storeOk]
theorem newest_true {s : List TPkg} {name : Int} {p : TPkg} (h : newestP s name = (p, true)) : p ∈ s ∧ p.name = name ∧ ∃ j, j < s.length ∧ p = nth s j ∧ ∀ i, j < i → i < s.length → (nth s i).name ≠ name := by
  unfold newestP at h
  split at h
  · rename_i h0
    obtain ⟨rfl, -⟩ := Prod.mk.inj h
    rcases newTo_spec s name s.length with ⟨h1, h2⟩ | ⟨h1, h2, h3, h4⟩
    · unfold newIx at h0; omega
    · have hlt : (newIx s name).toNat < s.length := by unfold newIx; omega
      refine ⟨nth_mem hlt, h3, _, hlt, rfl, fun i hi hi2 => h4 i ?_ hi2⟩
      unfold newIx at hi; omega
  · cases h
end Go.Proofs.Ytikennabfbkdhaa

/- Worlds: what is drawn. -/
namespace Go.Proofs.Ytikennabfbkdhaa
open Go
set_option linter.unusedVariables false
set_option linter.unusedSimpArgs false
set_option maxHeartbeats 4000000
set_option maxRecDepth 100000
def QStart (b : List Int) (p : Int) : SV → List SO → Prop := fun x os => ∃ (keys : List Int) (need : Int) (bad : List Int) (q : Int), x = .tup [.ag [iI 1, .osl 1, iI need], .osl 2] ∧ os = [rd b q, .arr false 1 (keys.map iI), .arr false 1 (bad.map iI)] ∧ keys.length ≤ 8 ∧ bad.length ≤ 6 ∧ p ≤ q ∧ q ≤ p + 400
theorem s_l72Start_L {b : List Int} (hb : RdOK b) (p0 : Int) (hp0 : 0 ≤ p0 ∧ p0 < 700000000) (ks : List Int) (hks : ks.length ≤ 8) (need : Int) : ∀ i : Nat, i ≤ 6 → ∀ (bad : List Int) (L : List SV) (q k : Int) (c : Nat), k = i + 1 → L = bad.map iI → bad.length ≤ i → p0 ≤ q → q ≤ p0 + 100 + i →
    Ev (fun n => G13_7 (callF prg n) (n + 1) 1 (n + 1 - c) [.ptr 0 0, .ptr 1 0, .ptr 2 0, .osl 3, iI k] [rd b q, .box [iI 0, .osl 4, iI 0], .box [iI 1, .osl 5, iI need], .arr false 1 L, .arr false 1 [], .arr false 1 (ks.map iI)]) (QStart b p0) := by
  refine up_ind ?_
  intro i hi ih bad L q k c hk hL hbl hq1 hq2
  subst hk
  have hLl : L.length ≤ 6 := by rw [hL, List.length_map]; omega
  have h2 : ∀ L', L' = L ++ [iI ((i : Int) + 1)] → Ex (fun m => callF prg m 19 [.sl 1 (ks.map iI), .sl 1 L'] []) (iI (pairs ks (bad ++ [(i : Int) + 1]))) [] := fun L' h => by
    rw [h, hL, show bad.map iI ++ [iI ((i : Int) + 1)] = (bad ++ [(i : Int) + 1]).map iI by rw [List.map_append]; rfl]
    exact s_l2Both _ _ (by omega) (by simp; omega)
  by_cases hk6 : i < 6
  · obtain ⟨z, hz, hpk⟩ := s_pick hb (p := q) (by omega) 3 (by omega)
    by_cases hc : z = 0 ∧ (pairs ks (bad ++ [(i : Int) + 1]) : Int) < need
    · obtain ⟨hc1, hc2⟩ := hc
      obtain ⟨x, os, hQ, hE⟩ := ih hk6 (bad ++ [(i : Int) + 1]) (L ++ [iI ((i : Int) + 1)]) (q + 1) ((i : Int) + 1 + 1) (c + 1) (by omega) (by rw [hL, List.map_append]; rfl) (by simp; omega) (by omega) (by omega)
      refine Ev.mono (Q := Is x os) ?_ (fun x' os' h => by obtain ⟨rfl, rfl⟩ := h; exact hQ)
      (refine UG13_7 _ ?_; unfold GB13_7)
      repeat' (first | ((with_reducible refine eG ?_); first | (with_reducible first | refine ev_gtt ?_ | refine ev_gff ?_ | refine ev_gtf ?_ | refine ev_gft ?_ | refine ev_gu ?_) | refine ev_bd rfl ?_ | refine ev_bd0 rfl ?_ | ((with_reducible refine ev_gB ?_ ?_) <;> intro h)) | ((with_reducible refine eB ?_); first | ((with_reducible first | refine ev_lss ?_ ?_ | refine ev_leq ?_ ?_ | refine ev_eql ?_ ?_) <;> intro h <;> try (exfalso; omega)) | ((with_reducible refine ev_add ?_ ?_); · omega) | refine ev_bd rfl ?_ | refine ev_bd0 rfl ?_) | ((with_reducible refine eC ?_); first | ((refine ev_call (hpk ..) rfl rfl ?_ rfl ?_); (focus first | exact .inl rfl | exact .inr rfl | (refine .inr ?_; simp [flagC, ownF, hasSl3, hasSl1, SO.hasSl, List.all_map, flatSV, SV.cells, Function.comp_def]; done))) | ((refine ev_call (h2 _ rfl) rfl rfl ?_ rfl ?_); (focus first | exact .inl rfl | exact .inr rfl | (refine .inr ?_; simp [flagC, ownF, hasSl3, hasSl1, SO.hasSl, List.all_map, flatSV, SV.cells, Function.comp_def]; done)))) | ((with_reducible refine eA ?_); first | (refine ev_app rfl rfl rfl rfl rfl ?_ ?_; · first | decide | (simp only [List.length_append, List.length_cons, List.length_nil, List.length_map, List.length_take, List.length_drop]; omega))) | ((with_reducible refine eK ?_); first | (with_reducible first | refine ev_ct ?_ | refine ev_cf ?_) | ((with_reducible refine ev_cond ?_ ?_) <;> intro h)) | ((with_reducible refine eO ?_); first | refine ev_bd rfl ?_ | (refine ev_bdB rfl ?_ ?_ <;> intro h <;> try (exfalso; simp_all; done)) | refine ev_bd0 rfl ?_ | (refine ev_ldm rfl ?_ rfl ?_; (focus omega)) | (refine ev_ldmB rfl ?_ rfl ?_ ?_; (focus omega); (all_goals intro h)) | (refine ev_ldz rfl rfl rfl ?_ ?_ ?_; (· simp); (· first | omega | (simp only [List.length_cons, List.length_nil, List.length_map, List.length_append]; omega)); intro w)) | ((with_reducible refine eD ?_); first | refine ev_bd rfl ?_ | refine ev_bd0 rfl ?_ | ((with_reducible refine ev_pickB ?_ ?_) <;> intro h)) | ((with_reducible refine ev_dchk ?_ ?_); · intro _; rfl) | ((with_reducible refine eH ?_); first | refine ev_gcB rfl ?_) | (with_reducible refine ev_bothI ?_ ?_) | ((with_reducible refine UJ13_8 ?_); (unfold JB13_8)) | (with_reducible first | refine UL13_7 ?_ | refine VL13_7 ?_) | ( with_reducible exact ev_is.2 hE) | refine ev_ret rfl ?_)
      all_goals first | (exfalso; omega) | trace_state
    · obtain ⟨x, os, hQ, hE⟩ := ih hk6 bad L (q + 1) ((i : Int) + 1 + 1) (c + 1) (by omega) hL (by omega) (by omega) (by omega)
      refine Ev.mono (Q := Is x os) ?_ (fun x' os' h => by obtain ⟨rfl, rfl⟩ := h; exact hQ)
      (refine UG13_7 _ ?_; unfold GB13_7)
      repeat' (first | ((with_reducible refine eG ?_); first | (with_reducible first | refine ev_gtt ?_ | refine ev_gff ?_ | refine ev_gtf ?_ | refine ev_gft ?_ | refine ev_gu ?_) | refine ev_bd rfl ?_ | refine ev_bd0 rfl ?_ | ((with_reducible refine ev_gB ?_ ?_) <;> intro h)) | ((with_reducible refine eB ?_); first | ((with_reducible first | refine ev_lss ?_ ?_ | refine ev_leq ?_ ?_ | refine ev_eql ?_ ?_) <;> intro h <;> try (exfalso; omega)) | ((with_reducible refine ev_add ?_ ?_); · omega) | refine ev_bd rfl ?_ | refine ev_bd0 rfl ?_) | ((with_reducible refine eC ?_); first | ((refine ev_call (hpk ..) rfl rfl ?_ rfl ?_); (focus first | exact .inl rfl | exact .inr rfl | (refine .inr ?_; simp [flagC, ownF, hasSl3, hasSl1, SO.hasSl, List.all_map, flatSV, SV.cells, Function.comp_def]; done))) | ((refine ev_call (h2 _ rfl) rfl rfl ?_ rfl ?_); (focus first | exact .inl rfl | exact .inr rfl | (refine .inr ?_; simp [flagC, ownF, hasSl3, hasSl1, SO.hasSl, List.all_map, flatSV, SV.cells, Function.comp_def]; done)))) | ((with_reducible refine eA ?_); first | (refine ev_app rfl rfl rfl rfl rfl ?_ ?_; · first | decide | (simp only [List.length_append, List.length_cons, List.length_nil, List.length_map, List.length_take, List.length_drop]; omega))) | ((with_reducible refine eK ?_); first | (with_reducible first | refine ev_ct ?_ | refine ev_cf ?_) | ((with_reducible refine ev_cond ?_ ?_) <;> intro h)) | ((with_reducible refine eO ?_); first | refine ev_bd rfl ?_ | (refine ev_bdB rfl ?_ ?_ <;> intro h <;> try (exfalso; simp_all; done)) | refine ev_bd0 rfl ?_ | (refine ev_ldm rfl ?_ rfl ?_; (focus omega)) | (refine ev_ldmB rfl ?_ rfl ?_ ?_; (focus omega); (all_goals intro h)) | (refine ev_ldz rfl rfl rfl ?_ ?_ ?_; (· simp); (· first | omega | (simp only [List.length_cons, List.length_nil, List.length_map, List.length_append]; omega)); intro w)) | ((with_reducible refine eD ?_); first | refine ev_bd rfl ?_ | refine ev_bd0 rfl ?_ | ((with_reducible refine ev_pickB ?_ ?_) <;> intro h)) | ((with_reducible refine ev_dchk ?_ ?_); · intro _; rfl) | ((with_reducible refine eH ?_); first | refine ev_gcB rfl ?_) | (with_reducible refine ev_bothI ?_ ?_) | ((with_reducible refine UJ13_8 ?_); (unfold JB13_8)) | (with_reducible first | refine UL13_7 ?_ | refine VL13_7 ?_) | ( with_reducible exact ev_is.2 hE) | refine ev_ret rfl ?_)
      all_goals first | (exfalso; omega) | trace_state
  · (refine UG13_7 _ ?_; unfold GB13_7)
    repeat' (first | ((with_reducible refine eG ?_); first | (with_reducible first | refine ev_gtt ?_ | refine ev_gff ?_ | refine ev_gtf ?_ | refine ev_gft ?_ | refine ev_gu ?_) | refine ev_bd rfl ?_ | refine ev_bd0 rfl ?_ | ((with_reducible refine ev_gB ?_ ?_) <;> intro h)) | ((with_reducible refine eB ?_); first | ((with_reducible first | refine ev_lss ?_ ?_ | refine ev_leq ?_ ?_ | refine ev_eql ?_ ?_) <;> intro h <;> try (exfalso; omega)) | refine ev_bd rfl ?_ | refine ev_bd0 rfl ?_) | ((with_reducible refine eC ?_); first | fail) | ((with_reducible refine eA ?_); first | (refine ev_app rfl rfl rfl rfl rfl ?_ ?_; · first | decide | (simp only [List.length_append, List.length_cons, List.length_nil, List.length_map, List.length_take, List.length_drop]; omega))) | ((with_reducible refine eK ?_); first | (with_reducible first | refine ev_ct ?_ | refine ev_cf ?_) | ((with_reducible refine ev_cond ?_ ?_) <;> intro h)) | ((with_reducible refine eO ?_); first | refine ev_bd rfl ?_ | (refine ev_bdB rfl ?_ ?_ <;> intro h <;> try (exfalso; simp_all; done)) | refine ev_bd0 rfl ?_ | (refine ev_ldm rfl ?_ rfl ?_; (focus omega)) | (refine ev_ldmB rfl ?_ rfl ?_ ?_; (focus omega); (all_goals intro h)) | (refine ev_ldz rfl rfl rfl ?_ ?_ ?_; (· simp); (· first | omega | (simp only [List.length_cons, List.length_nil, List.length_map, List.length_append]; omega)); intro w)) | ((with_reducible refine eD ?_); first | refine ev_bd rfl ?_ | refine ev_bd0 rfl ?_ | ((with_reducible refine ev_pickB ?_ ?_) <;> intro h)) | ((with_reducible refine ev_dchk ?_ ?_); · intro _; rfl) | refine ev_ret rfl ?_)
    all_goals first | exact ⟨ks, need, bad, q, rfl, by rw [hL], by omega, by omega, by omega, by omega⟩ | (exfalso; omega) | trace_state
theorem s_l72Start {b : List Int} (hb : RdOK b) {p : Int} (hp : 0 ≤ p ∧ p < 700000000) : Ev (fun m => callF prg m 13 [.ptr 0 0] [rd b p]) (QStart b p) := by
  (refine U13 (nl := 1) rfl ?_; unfold B13)
  repeat' (first | ((with_reducible refine eC ?_); first | ((refine ev_callE (s_l71Root hb (by omega)) rfl rfl ?_); ((rintro _ _ ⟨num, ks, need, q, rfl, rfl, hk, hq1, hq2⟩) <;> (first | (refine ev_post ?_ rfl ?_; (focus first | exact .inl rfl | exact .inr rfl | (refine .inr ?_; simp [flagC, ownF, hasSl3, hasSl1, SO.hasSl, List.all_map, flatSV, SV.cells, Function.comp_def]; done))) | (refine ev_postF ?_ rfl ?_; (focus first | rfl | (simp [flagC, ownF, hasSl3, hasSl1, SO.hasSl, List.all_map, flatSV, SV.cells, Function.comp_def]; done)))))) | ((refine ev_callB (s_RootOkS _ _ _ (by omega)) rfl rfl ?_ rfl rfl ?_ ?_); (focus first | exact .inl rfl | exact .inr rfl | (refine .inr ?_; simp [flagC, ownF, hasSl3, hasSl1, SO.hasSl, List.all_map, flatSV, SV.cells, Function.comp_def]; done)); (all_goals (intro h)); (all_goals (try (exfalso; simp_all; done))))) | ((with_reducible refine eK ?_); first | (with_reducible first | refine ev_ct ?_ | refine ev_cf ?_) | ((with_reducible refine ev_cond ?_ ?_) <;> intro h)) | ((with_reducible refine eO ?_); first | refine ev_bd rfl ?_ | (refine ev_bdB rfl ?_ ?_ <;> intro h <;> try (exfalso; simp_all; done)) | refine ev_bd0 rfl ?_ | (refine ev_ldm rfl ?_ rfl ?_; (focus omega)) | (refine ev_ldmB rfl ?_ rfl ?_ ?_; (focus omega); (all_goals intro h)) | (refine ev_ldz rfl rfl rfl ?_ ?_ ?_; (· simp); (· first | omega | (simp only [List.length_cons, List.length_nil, List.length_map, List.length_append]; omega)); intro w)) | ((with_reducible refine eD ?_); first | refine ev_bd rfl ?_ | refine ev_bd0 rfl ?_) | ((with_reducible refine eH ?_); first | refine ev_gcB rfl ?_) | ((with_reducible refine UJ13_5 ?_); (unfold JB13_5)) | (with_reducible first | refine UL13_7 ?_ | refine VL13_7 ?_) | refine ev_ret rfl ?_)
  all_goals first
    | exact (s_l72Start_L hb p (by omega) ks (by omega) need 0 (by omega) [] [] q 1 1 (by omega) rfl (by simp) (by omega) (by omega)).mono fun _ _ h => h
    | exact (s_l72Start_L hb p (by omega) [1, 2, 3] (by simp) 2 0 (by omega) [] [] q 1 1 (by omega) rfl (by simp) (by omega) (by omega)).mono fun _ _ h => h
    | trace_state
end Go.Proofs.Ytikennabfbkdhaa

/- Disks and steps, as data. -/
namespace Go.Proofs.Ytikennabfbkdhaa
open Go
set_option linter.unusedVariables false
structure TDisk where
  db : List TPkg
  files : List Int
  has : Bool
  jour : List TPkg
  deriving Inhabited, DecidableEq
structure TStep where
  kind : Int
  path : Int
  data : Int
  pkgs : List TPkg
  deriving Inhabited, DecidableEq
abbrev aDisk (d : TDisk) : SV := .ag [.sl 4 (d.db.map ePkg), .sl 1 (d.files.map iI), bB d.has, .sl 4 (d.jour.map ePkg)]
abbrev eStep (s : TStep) : SV := .ag [iI s.kind, iI s.path, iI s.data, .sl 4 (s.pkgs.map ePkg)]
def okInts (l : List Int) : Prop := l.length ≤ 9223372036854775807
def okPkg (p : TPkg) : Prop := p.files.length ≤ 9223372036854775807 ∧ p.deps.length ≤ 9223372036854775807
def okPkgs (l : List TPkg) : Prop := l.length ≤ 9223372036854775807 ∧ ∀ a, a ∈ l → okPkg a
def okRoot (r : TRoot) : Prop := r.keys.length ≤ 9223372036854775807
def okIndex (x : TIndex) : Prop := x.metas.length ≤ 9223372036854775807
def okTrust (t : TTrust) : Prop := okRoot t.root ∧ okIndex t.index
def okSigRoot (s : TRoot × List Int) : Prop := okRoot s.1 ∧ okInts s.2
def okSigIndex (s : TIndex × List Int) : Prop := okIndex s.1 ∧ okInts s.2
def okDisk (d : TDisk) : Prop := okPkgs d.db ∧ okInts d.files ∧ okPkgs d.jour
def okStep (s : TStep) : Prop := okPkgs s.pkgs
abbrev aSigRoot (s : TRoot × List Int) : SV := .ag [iI s.1.num, .sl 1 (s.1.keys.map iI), iI s.1.need, .sl 1 (s.2.map iI)]
abbrev aSigIndex (s : TIndex × List Int) : SV := .ag [iI s.1.num, iI s.1.til, .sl 3 (s.1.metas.map eMeta), .sl 1 (s.2.map iI)]
abbrev aRoot (r : TRoot) : SV := .ag [iI r.num, .sl 1 (r.keys.map iI), iI r.need]
abbrev aIndex (x : TIndex) : SV := .ag [iI x.num, iI x.til, .sl 3 (x.metas.map eMeta)]
end Go.Proofs.Ytikennabfbkdhaa

/- Drawn packages, some of them spoilt. -/
namespace Go.Proofs.Ytikennabfbkdhaa
open Go
set_option linter.unusedVariables false
set_option linter.unusedSimpArgs false
set_option maxHeartbeats 40000000
def QOff (b : List Int) (p : Int) : SV → List SO → Prop := fun x os => ∃ (s : List TPkg) (q : Int), x = .osl 1 ∧ os = [rd b q, .arr false 4 (s.map ePkg)] ∧ s.length ≤ 9 ∧ smalls s ∧ p ≤ q ∧ q ≤ p + 400
end Go.Proofs.Ytikennabfbkdhaa
