/- The evaluator S and what it says of functions: V20, V43, V46, Tn. -/
import Derived.Test.YtebaiioejagfoaaGreatDoorV40
import Derived.Test.YtebaiioejagfoaaGreatDoorTa
/- Packages in a store: the program's functions, the newest, the same. -/
namespace Go.Proofs.YtebaiioejagfoaaGreatDoor
open Go
set_option linter.unusedVariables false
set_option linter.unusedSimpArgs false
set_option maxHeartbeats 4000000
theorem s_PkgOkI_L10 (name ver : Int) (F : List TFile) (D : List TDep) (hD : D.length ≤ 2000000) : ∀ i, i ≤ D.length → (∀ j, j < i → depAt name D j) → ∀ (k : Int) (c : Nat), k = i →
    Ev (fun n => G39_10 (callF prg n) (n + 1) 0 (n + 1 - c) [.ptr 0 0, .sl 2 (D.map eDep), iI D.length, iI k] [.box [iI name, iI ver, .sl 2 (F.map eFile), .sl 2 (D.map eDep)]]) (Is (bB (depsAt name D)) []) := by
  refine up_ind ?_
  intro i hi ih hp k c hk
  subst hk
  (refine UG39_10 _ ?_; unfold GB39_10)
  repeat' (first | ((with_reducible refine eG ?_); first | (with_reducible first | refine ev_gtt ?_ | refine ev_gff ?_ | refine ev_gtf ?_ | refine ev_gft ?_ | refine ev_gu ?_) | refine ev_bd rfl ?_ | refine ev_bd0 rfl ?_ | ((with_reducible refine ev_gB ?_ ?_) <;> intro h)) | ((with_reducible refine eB ?_); first | ((with_reducible first | refine ev_lss ?_ ?_ | refine ev_leq ?_ ?_ | refine ev_gtr ?_ ?_ | refine ev_eql ?_ ?_) <;> intro h <;> try (exfalso; omega)) | ((with_reducible first | refine ev_add ?_ ?_ | refine ev_sub ?_ ?_); · omega) | refine ev_bd rfl ?_ | refine ev_bd0 rfl ?_) | ((with_reducible refine eI ?_); first | ((with_reducible refine ev_idxn ?_ ?_ ?_); (· rfl); · omega) | (refine ev_idxon rfl rfl ?_ ?_; (· first | omega | (simp only [List.length_cons, List.length_nil, List.length_map, List.length_append]; omega))) | (refine ev_idxfn rfl rfl ?_ ?_; (focus omega)) | ((with_reducible refine ev_idx ?_ ?_ ?_); (· rfl); · omega) | (refine ev_idxo rfl rfl ?_ ?_; (· first | omega | (simp only [List.length_cons, List.length_nil, List.length_map, List.length_append]; omega))) | (refine ev_idxf rfl rfl ?_ ?_; (focus omega)) | refine ev_bd rfl ?_ | refine ev_bd0 rfl ?_) | ((with_reducible refine eC ?_); first | ((refine ev_callD (s_isName ..) rfl rfl ?_ rfl rfl ?_ ?_); (focus first | exact .inl rfl | exact .inr rfl | (refine .inr ?_; simp [flagC, ownF, hasSl3, hasSl1, SO.hasSl, List.all_map, flatSV, SV.cells, Function.comp_def]; done)); (all_goals (intro h)); (all_goals (try (exfalso; first | omega | exact h rfl | exact h ⟨rfl, rfl, rfl⟩)))) | ((refine ev_callD (s_isVer ..) rfl rfl ?_ rfl rfl ?_ ?_); (focus first | exact .inl rfl | exact .inr rfl | (refine .inr ?_; simp [flagC, ownF, hasSl3, hasSl1, SO.hasSl, List.all_map, flatSV, SV.cells, Function.comp_def]; done)); (all_goals (intro h)); (all_goals (try (exfalso; first | omega | exact h rfl | exact h ⟨rfl, rfl, rfl⟩))))) | ((with_reducible refine eK ?_); first | (with_reducible first | refine ev_ct ?_ | refine ev_cf ?_) | ((with_reducible refine ev_cond ?_ ?_) <;> intro h)) | ((with_reducible refine eO ?_); first | refine ev_bd rfl ?_ | (refine ev_bdB rfl ?_ ?_ <;> intro h <;> try (exfalso; simp_all; done)) | refine ev_bd0 rfl ?_ | (refine ev_ldm rfl ?_ rfl ?_; (focus omega)) | (refine ev_ldmB rfl ?_ rfl ?_ ?_; (focus omega); (all_goals intro h))) | ((with_reducible refine eD ?_); first | refine ev_bd rfl ?_ | refine ev_bd0 rfl ?_ | ((with_reducible refine ev_pickB ?_ ?_) <;> intro h)) | ((with_reducible refine eH ?_); first | refine ev_gcB rfl ?_) | (with_reducible first | refine UL39_10 ?_ | refine VL39_10 ?_) | ((with_reducible refine ih ?_ (all_step hp ?_) _ _ ?_) <;> (first | omega | assumption | ((unfold depAt; (try simp only [Int.toNat_natCast, tn_sub1, tn_add1] at *); omega)) | (simp only [*, List.map_append, List.length_append, List.length_cons, List.length_nil, List.map_cons, List.map_nil]; done) | (simp_all; done) | (simp_all; omega))) | refine ev_ret rfl ?_)
  all_goals first | exact ⟨congrArg bB (Eq.symm (all_true hp (by omega))), rfl⟩ | exact ⟨congrArg bB (Eq.symm (all_false (i := i) (by omega) (by unfold depAt; (try simp only [Int.toNat_natCast, tn_sub1, tn_add1] at *); omega))), rfl⟩ | trace_state
theorem s_PkgOkI_L4 (name ver : Int) (F : List TFile) (D : List TDep) (hF : F.length ≤ 2000000) (hD : D.length ≤ 2000000) : ∀ i, i ≤ F.length → (∀ j, j < i → fileAt F j) → ∀ (k : Int) (c : Nat), k = i →
    Ev (fun n => G39_4 (callF prg n) (n + 1) 0 (n + 1 - c) [.ptr 0 0, .sl 2 (F.map eFile), iI F.length, iI k] [.box [iI name, iI ver, .sl 2 (F.map eFile), .sl 2 (D.map eDep)]]) (Is (bB (filesAt F && depsAt name D)) []) := by
  refine up_ind ?_
  intro i hi ih hp k c hk
  subst hk
  (refine UG39_4 _ ?_; unfold GB39_4)
  repeat' (first | ((with_reducible refine eG ?_); first | (with_reducible first | refine ev_gtt ?_ | refine ev_gff ?_ | refine ev_gtf ?_ | refine ev_gft ?_ | refine ev_gu ?_) | refine ev_bd rfl ?_ | refine ev_bd0 rfl ?_ | ((with_reducible refine ev_gB ?_ ?_) <;> intro h)) | ((with_reducible refine eB ?_); first | ((with_reducible first | refine ev_lss ?_ ?_ | refine ev_leq ?_ ?_ | refine ev_gtr ?_ ?_) <;> intro h <;> try (exfalso; omega)) | ((with_reducible first | refine ev_add ?_ ?_ | refine ev_sub ?_ ?_); · omega) | refine ev_bd rfl ?_ | refine ev_bd0 rfl ?_) | ((with_reducible refine eL ?_); first | ((with_reducible refine ev_lenm ?_ ?_); · rfl) | refine ev_lenom rfl rfl ?_ | refine ev_lenfm rfl rfl ?_ | refine ev_lenoc rfl rfl rfl ?_ | refine ev_lenc rfl rfl ?_ | refine ev_leno rfl rfl ?_ | refine ev_slen rfl ?_ | refine ev_bd rfl ?_ | refine ev_bd0 rfl ?_) | ((with_reducible refine eI ?_); first | ((with_reducible refine ev_idxn ?_ ?_ ?_); (· rfl); · omega) | (refine ev_idxon rfl rfl ?_ ?_; (· first | omega | (simp only [List.length_cons, List.length_nil, List.length_map, List.length_append]; omega))) | (refine ev_idxfn rfl rfl ?_ ?_; (focus omega)) | ((with_reducible refine ev_idx ?_ ?_ ?_); (· rfl); · omega) | (refine ev_idxo rfl rfl ?_ ?_; (· first | omega | (simp only [List.length_cons, List.length_nil, List.length_map, List.length_append]; omega))) | (refine ev_idxf rfl rfl ?_ ?_; (focus omega)) | refine ev_bd rfl ?_ | refine ev_bd0 rfl ?_) | ((with_reducible refine eC ?_); first | ((refine ev_callD (s_in ..) rfl rfl ?_ rfl rfl ?_ ?_); (focus first | exact .inl rfl | exact .inr rfl | (refine .inr ?_; simp [flagC, ownF, hasSl3, hasSl1, SO.hasSl, List.all_map, flatSV, SV.cells, Function.comp_def]; done)); (all_goals (intro h)); (all_goals (try (exfalso; first | omega | exact h rfl | exact h ⟨rfl, rfl, rfl⟩))))) | ((with_reducible refine eK ?_); first | (with_reducible first | refine ev_ct ?_ | refine ev_cf ?_) | ((with_reducible refine ev_cond ?_ ?_) <;> intro h)) | ((with_reducible refine eO ?_); first | refine ev_bd rfl ?_ | (refine ev_bdB rfl ?_ ?_ <;> intro h <;> try (exfalso; simp_all; done)) | refine ev_bd0 rfl ?_ | (refine ev_ldm rfl ?_ rfl ?_; (focus omega)) | (refine ev_ldmB rfl ?_ rfl ?_ ?_; (focus omega); (all_goals intro h))) | ((with_reducible refine eD ?_); first | refine ev_bd rfl ?_ | refine ev_bd0 rfl ?_ | ((with_reducible refine ev_pickB ?_ ?_) <;> intro h)) | ((with_reducible refine eH ?_); first | refine ev_gcB rfl ?_) | (with_reducible first | refine UL39_4 ?_ | refine VL39_4 ?_) | (with_reducible first | refine UL39_10 ?_ | refine VL39_10 ?_) | ((with_reducible refine ih ?_ (all_step hp ?_) _ _ ?_) <;> (first | omega | assumption | ((unfold fileAt; (try simp only [Int.toNat_natCast, tn_sub1, tn_add1] at *); omega)) | (simp only [*, List.map_append, List.length_append, List.length_cons, List.length_nil, List.map_cons, List.map_nil]; done) | (simp_all; done) | (simp_all; omega))) | ( ((rw [show (filesAt F && depsAt name D) = depsAt name D by rw [show filesAt F = true from all_true hp (by omega), Bool.true_and]]); exact s_PkgOkI_L10 name ver F D hD 0 (by omega) (fun j hj => by omega) 0 _ rfl)) | refine ev_ret rfl ?_)
  all_goals first
    | (have hm : filesAt F = false := all_false (i := i) (by omega) (by unfold fileAt; (try simp only [Int.toNat_natCast, tn_sub1, tn_add1] at *); omega)
       exact ⟨congrArg bB (by simp [hm]), rfl⟩)
    | trace_state
theorem s_PkgOkI (name ver : Int) (F : List TFile) (D : List TDep) (hF : F.length ≤ 2000000) (hD : D.length ≤ 2000000) : Ex (fun m => callF prg m 39 [.ag [iI name, iI ver, .sl 2 (F.map eFile), .sl 2 (D.map eDep)]] []) (bB (pkgOk ⟨name, ver, F, D⟩)) [] := by
  refine ev_is.1 ?_
  (refine U39 (nl := 0) rfl ?_; unfold B39)
  repeat' (first | ((with_reducible refine eG ?_); first | (with_reducible first | refine ev_gtt ?_ | refine ev_gff ?_ | refine ev_gtf ?_ | refine ev_gft ?_ | refine ev_gu ?_) | refine ev_bd rfl ?_ | refine ev_bd0 rfl ?_ | ((with_reducible refine ev_gB ?_ ?_) <;> intro h)) | ((with_reducible refine eB ?_); first | ((with_reducible refine ev_gtr ?_ ?_) <;> intro h <;> try (exfalso; omega)) | refine ev_bd rfl ?_ | refine ev_bd0 rfl ?_) | ((with_reducible refine eL ?_); first | ((with_reducible refine ev_lenm ?_ ?_); · rfl) | refine ev_lenom rfl rfl ?_ | refine ev_lenfm rfl rfl ?_ | refine ev_lenoc rfl rfl rfl ?_ | refine ev_lenc rfl rfl ?_ | refine ev_leno rfl rfl ?_ | refine ev_slen rfl ?_ | refine ev_bd rfl ?_ | refine ev_bd0 rfl ?_) | ((with_reducible refine eC ?_); first | ((refine ev_callD (s_isName ..) rfl rfl ?_ rfl rfl ?_ ?_); (focus first | exact .inl rfl | exact .inr rfl | (refine .inr ?_; simp [flagC, ownF, hasSl3, hasSl1, SO.hasSl, List.all_map, flatSV, SV.cells, Function.comp_def]; done)); (all_goals (intro h)); (all_goals (try (exfalso; first | omega | exact h rfl | exact h ⟨rfl, rfl, rfl⟩)))) | ((refine ev_callD (s_isVer ..) rfl rfl ?_ rfl rfl ?_ ?_); (focus first | exact .inl rfl | exact .inr rfl | (refine .inr ?_; simp [flagC, ownF, hasSl3, hasSl1, SO.hasSl, List.all_map, flatSV, SV.cells, Function.comp_def]; done)); (all_goals (intro h)); (all_goals (try (exfalso; first | omega | exact h rfl | exact h ⟨rfl, rfl, rfl⟩))))) | ((with_reducible refine eK ?_); first | (with_reducible first | refine ev_ct ?_ | refine ev_cf ?_) | ((with_reducible refine ev_cond ?_ ?_) <;> intro h)) | ((with_reducible refine eO ?_); first | refine ev_bd rfl ?_ | (refine ev_bdB rfl ?_ ?_ <;> intro h <;> try (exfalso; simp_all; done)) | refine ev_bd0 rfl ?_ | (refine ev_ldm rfl ?_ rfl ?_; (focus omega)) | (refine ev_ldmB rfl ?_ rfl ?_ ?_; (focus omega); (all_goals intro h))) | ((with_reducible refine eD ?_); first | refine ev_bd rfl ?_ | refine ev_bd0 rfl ?_ | ((with_reducible refine ev_pickB ?_ ?_) <;> intro h)) | ((with_reducible refine eH ?_); first | refine ev_gcB rfl ?_) | (with_reducible first | refine UL39_4 ?_ | refine VL39_4 ?_) | ( ((rw [show pkgOk ⟨name, ver, F, D⟩ = (filesAt F && depsAt name D) by (simp only [pkgOk, filesOk, depsOk]; rw [decide_eq_true (by omega : 1 ≤ name ∧ name ≤ 4), decide_eq_true (by omega : 1 ≤ ver ∧ ver ≤ 5), decide_eq_true (by omega : F.length ≤ 2), decide_eq_true (by omega : D.length ≤ 2)]; simp)]); exact s_PkgOkI_L4 name ver F D hF hD 0 (by omega) (fun j hj => by omega) 0 1 rfl)) | refine ev_ret rfl ?_)
  all_goals (refine ⟨congrArg (fun b => SV.v (Value.bool b)) ?_, rfl⟩; first | (simp_all [pkgOk, filesOk, depsOk]; done) | (simp_all [pkgOk, filesOk, depsOk]; omega) | (simp [pkgOk, filesOk, depsOk] at *; omega) | (simp [pkgOk, filesOk, depsOk]; omega) | grind [pkgOk, filesOk, depsOk] | trace_state)
def cmpI (a b : Int) : Int := if a < b then -1 else if b < a then 1 else 0
theorem s_isNaN (a : Int) : Ex (fun m => callF prg m 119 [iI a] []) (bB false) [] := by
  refine ev_is.1 ?_
  (refine U119 (nl := 0) rfl ?_; unfold B119)
  repeat' (first | ((with_reducible refine eB ?_); first | ((with_reducible refine ev_neq ?_ ?_) <;> intro h <;> try (exfalso; omega)) | refine ev_bd rfl ?_ | refine ev_bd0 rfl ?_) | ((with_reducible refine eD ?_); first | refine ev_bd rfl ?_ | refine ev_bd0 rfl ?_) | refine ev_ret rfl ?_)
  all_goals first | exact ⟨rfl, rfl⟩ | (exfalso; omega) | trace_state
theorem s_Compare (a b : Int) : Ex (fun m => callF prg m 104 [iI a, iI b] []) (iI (cmpI a b)) [] := by
  refine ev_is.1 ?_
  (refine U104 (nl := 0) rfl ?_; unfold B104)
  repeat' (first | ((with_reducible refine eB ?_); first | ((with_reducible first | refine ev_lss ?_ ?_ | refine ev_gtr ?_ ?_) <;> intro h <;> try (exfalso; omega)) | refine ev_bd rfl ?_ | refine ev_bd0 rfl ?_) | ((with_reducible refine eC ?_); first | ((refine ev_call (s_isNaN ..) rfl rfl ?_ rfl ?_); (focus first | exact .inl rfl | exact .inr rfl | (refine .inr ?_; simp [flagC, ownF, hasSl3, hasSl1, SO.hasSl, List.all_map, flatSV, SV.cells, Function.comp_def]; done)))) | ((with_reducible refine eK ?_); first | (with_reducible first | refine ev_ct ?_ | refine ev_cf ?_) | ((with_reducible refine ev_cond ?_ ?_) <;> intro h)) | ((with_reducible refine eD ?_); first | refine ev_bd rfl ?_ | refine ev_bd0 rfl ?_) | refine ev_ret rfl ?_)
  all_goals exact ⟨congrArg iI (by unfold cmpI; repeat' split <;> omega), rfl⟩
theorem s_Or2 (a b : Int) : Ex (fun m => callF prg m 103 [.sl 1 [iI a, iI b]] []) (iI (if a ≠ 0 then a else b)) [] := by
  refine ev_is.1 ?_
  (refine U103 (nl := 0) rfl ?_; unfold B103)
  repeat' (first | ((with_reducible refine eB ?_); first | ((with_reducible first | refine ev_lss ?_ ?_ | refine ev_neq ?_ ?_) <;> intro h <;> try (exfalso; omega)) | ((with_reducible refine ev_add ?_ ?_); · omega) | refine ev_bd rfl ?_ | refine ev_bd0 rfl ?_) | ((with_reducible refine eL ?_); first | ((with_reducible refine ev_lenm ?_ ?_); · rfl) | refine ev_lenom rfl rfl ?_ | refine ev_lenfm rfl rfl ?_ | refine ev_lenoc rfl rfl rfl ?_ | refine ev_lenc rfl rfl ?_ | refine ev_leno rfl rfl ?_ | refine ev_slen rfl ?_ | refine ev_bd rfl ?_ | refine ev_bd0 rfl ?_) | ((with_reducible refine eI ?_); first | ((with_reducible refine ev_idxn ?_ ?_ ?_); (· rfl); · omega) | (refine ev_idxon rfl rfl ?_ ?_; (· first | omega | (simp only [List.length_cons, List.length_nil, List.length_map, List.length_append]; omega))) | (refine ev_idxfn rfl rfl ?_ ?_; (focus omega)) | ((with_reducible refine ev_idx ?_ ?_ ?_); (· rfl); · omega) | (refine ev_idxo rfl rfl ?_ ?_; (· first | omega | (simp only [List.length_cons, List.length_nil, List.length_map, List.length_append]; omega))) | (refine ev_idxf rfl rfl ?_ ?_; (focus omega)) | refine ev_bd rfl ?_ | refine ev_bd0 rfl ?_) | ((with_reducible refine eK ?_); first | (with_reducible first | refine ev_ct ?_ | refine ev_cf ?_) | ((with_reducible refine ev_cond ?_ ?_) <;> intro h)) | ((with_reducible refine eO ?_); first | refine ev_bd rfl ?_ | (refine ev_bdB rfl ?_ ?_ <;> intro h <;> try (exfalso; simp_all; done)) | refine ev_bd0 rfl ?_ | (refine ev_ldm rfl ?_ rfl ?_; (focus omega)) | (refine ev_ldmB rfl ?_ rfl ?_ ?_; (focus omega); (all_goals intro h))) | ((with_reducible refine eD ?_); first | refine ev_bd rfl ?_ | refine ev_bd0 rfl ?_) | ((with_reducible first | refine UL103_3 ?_ | refine VL103_3 ?_); (unfold LB103_3)) | refine ev_ret rfl ?_)
  all_goals first | exact ⟨congrArg iI (by split <;> omega), rfl⟩ | trace_state
theorem s_compare (n v : Int) (F : List TFile) (D : List TDep) (n' v' : Int) (F' : List TFile) (D' : List TDep) : ∃ z : Int, ((z < 0 ↔ (n < n' ∨ n = n' ∧ v < v')) ∧ (z = 0 ↔ (n = n' ∧ v = v'))) ∧
    Ex (fun m => callF prg m 74 [.ag [iI n, iI v, .sl 2 (F.map eFile), .sl 2 (D.map eDep)], .ag [iI n', iI v', .sl 2 (F'.map eFile), .sl 2 (D'.map eDep)]] []) (iI z) [] := by
  refine ⟨if cmpI n n' ≠ 0 then cmpI n n' else cmpI v v', ?_, ev_is.1 ?_⟩
  · unfold cmpI
    repeat' split
    all_goals omega
  · (refine U74 (nl := 0) rfl ?_; unfold B74)
    repeat' (first | ((with_reducible refine eC ?_); first | ((refine ev_call (s_Compare ..) rfl rfl ?_ rfl ?_); (focus first | exact .inl rfl | exact .inr rfl | (refine .inr ?_; simp [flagC, ownF, hasSl3, hasSl1, SO.hasSl, List.all_map, flatSV, SV.cells, Function.comp_def]; done))) | ((refine ev_call (s_Or2 ..) rfl rfl ?_ rfl ?_); (focus first | exact .inl rfl | exact .inr rfl | (refine .inr ?_; simp [flagC, ownF, hasSl3, hasSl1, SO.hasSl, List.all_map, flatSV, SV.cells, Function.comp_def]; done)))) | ((with_reducible refine eO ?_); first | refine ev_bd rfl ?_ | (refine ev_bdB rfl ?_ ?_ <;> intro h <;> try (exfalso; simp_all; done)) | refine ev_bd0 rfl ?_ | (refine ev_ldm rfl ?_ rfl ?_; (focus omega)) | (refine ev_ldmB rfl ?_ rfl ?_ ?_; (focus omega); (all_goals intro h)) | (refine ev_ldz rfl rfl rfl ?_ ?_ ?_; (· simp); (· first | omega | (simp only [List.length_cons, List.length_nil, List.length_map, List.length_append]; omega)); intro w)) | ((with_reducible refine eD ?_); first | refine ev_bd rfl ?_ | refine ev_bd0 rfl ?_) | ((with_reducible refine ev_dchk ?_ ?_); · intro _; rfl) | refine ev_ret rfl ?_)
    all_goals exact ⟨rfl, rfl⟩
theorem s_StoreOkI_L (s : List TPkg) (hs : s.length ≤ 2000000) (hp0 : PL s) : ∀ i, i ≤ s.length → (∀ j, j < i → pkgAt s j) → ∀ (k : Int) (c : Nat), k = i →
    Ev (fun n => G34_2 (callF prg n) (n + 1) 0 (n + 1 - c) [.sl 4 (s.map ePkg), .sl 4 (s.map ePkg), iI s.length, iI k] []) (Is (bB (storeOk s)) []) := by
  refine up_ind ?_
  intro i hi ih hp k c hk
  subst hk
  (refine UG34_2 _ ?_; unfold GB34_2)
  repeat' (first | ((with_reducible refine eG ?_); first | (with_reducible first | refine ev_gtt ?_ | refine ev_gff ?_ | refine ev_gtf ?_ | refine ev_gft ?_ | refine ev_gu ?_) | refine ev_bd rfl ?_ | refine ev_bd0 rfl ?_ | ((with_reducible refine ev_gB ?_ ?_) <;> intro h)) | ((with_reducible refine eB ?_); first | ((with_reducible first | refine ev_lss ?_ ?_ | refine ev_gtr ?_ ?_ | refine ev_geq ?_ ?_) <;> intro h <;> try (exfalso; omega)) | ((with_reducible first | refine ev_add ?_ ?_ | refine ev_sub ?_ ?_); · omega) | refine ev_bd rfl ?_ | refine ev_bd0 rfl ?_) | ((with_reducible refine eI ?_); first | ((with_reducible refine ev_idxn ?_ ?_ ?_); (· rfl); · omega) | (refine ev_idxon rfl rfl ?_ ?_; (· first | omega | (simp only [List.length_cons, List.length_nil, List.length_map, List.length_append]; omega))) | (refine ev_idxfn rfl rfl ?_ ?_; (focus omega)) | ((with_reducible refine ev_idx ?_ ?_ ?_); (· rfl); · omega) | (refine ev_idxo rfl rfl ?_ ?_; (· first | omega | (simp only [List.length_cons, List.length_nil, List.length_map, List.length_append]; omega))) | (refine ev_idxf rfl rfl ?_ ?_; (focus omega)) | refine ev_bd rfl ?_ | refine ev_bd0 rfl ?_) | ((with_reducible refine eC ?_); first | ((refine ev_callB (s_PkgOkI _ _ _ _ (hp0 _).1 (hp0 _).2) rfl rfl ?_ rfl rfl ?_ ?_); (focus first | exact .inl rfl | exact .inr rfl | (refine .inr ?_; simp [flagC, ownF, hasSl3, hasSl1, SO.hasSl, List.all_map, flatSV, SV.cells, Function.comp_def]; done)); (all_goals (intro h)); (all_goals (try (exfalso; simp_all; done)))) | ((refine ev_callN (s_compare _ _ _ _ _ _ _ _) rfl rfl ?_ (fun _ => rfl) ?_); (· first | exact .inl rfl | exact .inr (fun _ => rfl)); (first | (have q0 := z3; clear q0; intro z4 hz4) | (have q0 := z2; clear q0; intro z3 hz3) | (have q0 := z; clear q0; intro z2 hz2) | (intro z hz)))) | ((with_reducible refine eK ?_); first | (with_reducible first | refine ev_ct ?_ | refine ev_cf ?_) | ((with_reducible refine ev_cond ?_ ?_) <;> intro h)) | ((with_reducible refine eO ?_); first | refine ev_bd rfl ?_ | (refine ev_bdB rfl ?_ ?_ <;> intro h <;> try (exfalso; simp_all; done)) | refine ev_bd0 rfl ?_ | (refine ev_ldm rfl ?_ rfl ?_; (focus omega)) | (refine ev_ldmB rfl ?_ rfl ?_ ?_; (focus omega); (all_goals intro h))) | ((with_reducible refine eD ?_); first | refine ev_bd rfl ?_ | refine ev_bd0 rfl ?_ | ((with_reducible refine ev_pickB ?_ ?_) <;> intro h)) | ((with_reducible refine eH ?_); first | refine ev_gcB rfl ?_) | (with_reducible first | refine UL34_2 ?_ | refine VL34_2 ?_) | ((with_reducible refine ih ?_ (all_step hp ?_) _ _ ?_) <;> (first | omega | assumption | ((refine ⟨by assumption, fun hi0 => ?_⟩; unfold pless; (try simp only [Int.toNat_natCast, tn_sub1, tn_add1] at *); omega)) | (simp only [*, List.map_append, List.length_append, List.length_cons, List.length_nil, List.map_cons, List.map_nil]; done) | (simp_all; done) | (simp_all; omega))) | refine ev_ret rfl ?_)
  all_goals first
    | exact ⟨congrArg bB (Eq.symm (all_true hp (by omega))), rfl⟩
    | (refine ⟨congrArg bB (Eq.symm (all_false (i := i) (by omega) ?_)), rfl⟩; intro hh; have h1 := hh.2 (by omega); unfold pless at h1; (try simp only [Int.toNat_natCast, tn_sub1, tn_add1] at *); omega)
    | (refine ⟨congrArg bB (Eq.symm (all_false (i := i) (by omega) ?_)), rfl⟩; intro hh; have h1 := hh.1; exact Bool.noConfusion (h1.symm.trans h))
    | trace_state
theorem s_StoreOkI (s : List TPkg) (hs : s.length ≤ 2000000) (hp0 : PL s) : Ex (fun m => callF prg m 34 [.sl 4 (s.map ePkg)] []) (bB (storeOk s)) [] := by
  refine ev_is.1 ?_
  (refine U34 (nl := 0) rfl ?_; unfold B34)
  repeat' (first | ((with_reducible refine eL ?_); first | ((with_reducible refine ev_lenm ?_ ?_); · rfl) | refine ev_lenom rfl rfl ?_ | refine ev_lenfm rfl rfl ?_ | refine ev_lenoc rfl rfl rfl ?_ | refine ev_lenc rfl rfl ?_ | refine ev_leno rfl rfl ?_ | refine ev_slen rfl ?_ | refine ev_bd rfl ?_ | refine ev_bd0 rfl ?_) | ((with_reducible refine eD ?_); first | refine ev_bd rfl ?_ | refine ev_bd0 rfl ?_) | ((with_reducible refine eH ?_); first | refine ev_gcB rfl ?_) | (with_reducible first | refine UL34_2 ?_ | refine VL34_2 ?_) | ( exact s_StoreOkI_L s hs hp0 0 (by omega) (fun j hj => by omega) 0 1 rfl) | refine ev_ret rfl ?_)
theorem s_StoreOkS (s : List TPkg) (hs : s.length ≤ 2000000) (hp0 : PL s) : Ex (fun m => callF prg m 51 [.sl 4 (s.map ePkg)] []) (bB (storeOk s)) [] := by
  refine ev_is.1 ?_
  (refine U51 (nl := 0) rfl ?_; unfold B51)
  repeat' (first | ((with_reducible refine eC ?_); first | ((refine ev_call (s_l3Pkgs s hs hp0) rfl rfl ?_ rfl ?_); (focus first | exact .inl rfl | exact .inr rfl | (refine .inr ?_; simp [flagC, ownF, hasSl3, hasSl1, SO.hasSl, List.all_map, flatSV, SV.cells, Function.comp_def]; done)))) | ((with_reducible refine eD ?_); first | refine ev_bd rfl ?_ | refine ev_bd0 rfl ?_) | refine ev_ret rfl ?_)
  all_goals exact ⟨rfl, rfl⟩
def newTo (s : List TPkg) (name : Int) : Nat → Int
  | 0 => -1
  | i + 1 => if (nth s i).name = name then i else newTo s name i
def newIx (s : List TPkg) (name : Int) : Int := newTo s name s.length
def zPkg : TPkg := ⟨0, 0, [], []⟩
def newestP (s : List TPkg) (name : Int) : TPkg × Bool := if 0 ≤ newIx s name then (nth s (newIx s name).toNat, true) else (zPkg, false)
def storeNewest (s : List TPkg) (name : Int) : TPkg × Bool := if storeOk s = true then newestP s name else (zPkg, false)
def QNew (r : TPkg × Bool) : SV → List SO → Prop := fun x os => ∃ p ok, r = (p, ok) ∧ x = .tup [rPkg p 0 1, bB ok] ∧ os = oPkg p
theorem TFile.eq2 {m n : TFile} (h : m.path = n.path ∧ m.data = n.data) : m = n := by cases m; cases n; simp_all
theorem TDep.eq2 {m n : TDep} (h : m.name = n.name ∧ m.least = n.least) : m = n := by cases m; cases n; simp_all
end Go.Proofs.YtebaiioejagfoaaGreatDoor

/- The exact laws' own functions, over packages. -/
namespace Go.Proofs.YtebaiioejagfoaaGreatDoor
open Go
set_option linter.unusedVariables false
set_option linter.unusedSimpArgs false
set_option maxHeartbeats 4000000
theorem left_le (n : Nat) (k : Int) (h : -1 ≤ k) : left n k ≤ k ∧ -1 ≤ left n k := by unfold left; split <;> omega
theorem s_szFileS (l : List TFile) (k : Int) (hl : l.length ≤ 9223372036854775807) (hk : -1 ≤ k ∧ k ≤ 1048576) : Ex (fun m => callF prg m 85 [.sl 2 (l.map eFile), iI k] []) (iI (left l.length k)) [] := by
  refine ev_is.1 ?_
  (refine U85 (nl := 0) rfl ?_; unfold B85)
  repeat' (first | ((with_reducible refine eB ?_); first | ((with_reducible refine ev_lss ?_ ?_) <;> intro h <;> try (exfalso; omega)) | ((with_reducible refine ev_sub ?_ ?_); · omega) | refine ev_bd rfl ?_ | refine ev_bd0 rfl ?_) | ((with_reducible refine eL ?_); first | ((with_reducible refine ev_lenm ?_ ?_); · rfl) | refine ev_lenom rfl rfl ?_ | refine ev_lenfm rfl rfl ?_ | refine ev_lenoc rfl rfl rfl ?_ | refine ev_lenc rfl rfl ?_ | refine ev_leno rfl rfl ?_ | refine ev_slen rfl ?_ | refine ev_bd rfl ?_ | refine ev_bd0 rfl ?_) | ((with_reducible refine eK ?_); first | (with_reducible first | refine ev_ct ?_ | refine ev_cf ?_) | ((with_reducible refine ev_cond ?_ ?_) <;> intro h)) | ((with_reducible refine eD ?_); first | refine ev_bd rfl ?_ | refine ev_bd0 rfl ?_) | refine ev_ret rfl ?_)
  all_goals exact ⟨congrArg iI (by unfold left; split <;> omega), rfl⟩
theorem s_szDepS (l : List TDep) (k : Int) (hl : l.length ≤ 9223372036854775807) (hk : -1 ≤ k ∧ k ≤ 1048576) : Ex (fun m => callF prg m 86 [.sl 2 (l.map eDep), iI k] []) (iI (left l.length k)) [] := by
  refine ev_is.1 ?_
  (refine U86 (nl := 0) rfl ?_; unfold B86)
  repeat' (first | ((with_reducible refine eB ?_); first | ((with_reducible refine ev_lss ?_ ?_) <;> intro h <;> try (exfalso; omega)) | ((with_reducible refine ev_sub ?_ ?_); · omega) | refine ev_bd rfl ?_ | refine ev_bd0 rfl ?_) | ((with_reducible refine eL ?_); first | ((with_reducible refine ev_lenm ?_ ?_); · rfl) | refine ev_lenom rfl rfl ?_ | refine ev_lenfm rfl rfl ?_ | refine ev_lenoc rfl rfl rfl ?_ | refine ev_lenc rfl rfl ?_ | refine ev_leno rfl rfl ?_ | refine ev_slen rfl ?_ | refine ev_bd rfl ?_ | refine ev_bd0 rfl ?_) | ((with_reducible refine eK ?_); first | (with_reducible first | refine ev_ct ?_ | refine ev_cf ?_) | ((with_reducible refine ev_cond ?_ ?_) <;> intro h)) | ((with_reducible refine eD ?_); first | refine ev_bd rfl ?_ | refine ev_bd0 rfl ?_) | refine ev_ret rfl ?_)
  all_goals exact ⟨congrArg iI (by unfold left; split <;> omega), rfl⟩
theorem s_szPkg (p : TPkg) (k : Int) (hl : okPkg p) (hk : -1 ≤ k ∧ k ≤ 1048576) : ∃ z : Int, (z ≤ k ∧ -1 ≤ z ∧ (0 ≤ z → p.files.length ≤ 1048576 ∧ p.deps.length ≤ 1048576)) ∧ Ex (fun m => callF prg m 49 [ePkg p, iI k] []) (iI z) [] := by
  have key : Ev (fun m => callF prg m 49 [ePkg p, iI k] []) (fun y os => ∃ z : Int, y = iI z ∧ os = [] ∧ (z ≤ k ∧ -1 ≤ z ∧ (0 ≤ z → p.files.length ≤ 1048576 ∧ p.deps.length ≤ 1048576))) := by
    have hz := left_le p.files.length k hk.1
    have hz2 := left_le p.deps.length _ hz.2
    (refine U49 (nl := 0) rfl ?_; unfold B49)
    repeat' (first | ((with_reducible refine eB ?_); first | ((with_reducible refine ev_lss ?_ ?_) <;> intro h <;> try (exfalso; omega)) | refine ev_bd rfl ?_ | refine ev_bd0 rfl ?_) | ((with_reducible refine eC ?_); first | ((refine ev_call (s_szFileS p.files k hl.1 hk) rfl rfl ?_ rfl ?_); (focus first | exact .inl rfl | exact .inr rfl | (refine .inr ?_; simp [flagC, ownF, hasSl3, hasSl1, SO.hasSl, List.all_map, flatSV, SV.cells, Function.comp_def]; done))) | ((refine ev_call (s_szDepS p.deps _ hl.2 ⟨hz.2, by omega⟩) rfl rfl ?_ rfl ?_); (focus first | exact .inl rfl | exact .inr rfl | (refine .inr ?_; simp [flagC, ownF, hasSl3, hasSl1, SO.hasSl, List.all_map, flatSV, SV.cells, Function.comp_def]; done)))) | ((with_reducible refine eK ?_); first | (with_reducible first | refine ev_ct ?_ | refine ev_cf ?_) | ((with_reducible refine ev_cond ?_ ?_) <;> intro h)) | ((with_reducible refine eO ?_); first | refine ev_bd rfl ?_ | (refine ev_bdB rfl ?_ ?_ <;> intro h <;> try (exfalso; simp_all; done)) | refine ev_bd0 rfl ?_ | (refine ev_ldm rfl ?_ rfl ?_; (focus omega)) | (refine ev_ldmB rfl ?_ rfl ?_ ?_; (focus omega); (all_goals intro h))) | ((with_reducible refine eD ?_); first | refine ev_bd rfl ?_ | refine ev_bd0 rfl ?_) | refine ev_ret rfl ?_)
    all_goals first
      | exact ⟨-1, rfl, rfl, by omega, by omega, fun h => by omega⟩
      | exact ⟨_, rfl, rfl, by omega, by omega, fun h => by have h3 := left_ok (by assumption); have h4 := left_ok (by assumption : ¬ left p.files.length k < 0); omega⟩
      | trace_state
  obtain ⟨y, os, ⟨z, rfl, rfl, hz⟩, he⟩ := key
  exact ⟨z, hz, he⟩
def lowPkg (p : TPkg) : Prop := p.files.length ≤ 1048576 ∧ p.deps.length ≤ 1048576
def lowPkgs (s : List TPkg) : Prop := s.length ≤ 1048576 ∧ ∀ i, i < s.length → lowPkg (nth s i)
theorem lowPkgs.pl {s : List TPkg} (h : lowPkgs s) : PL s := fun i => by
  by_cases hi : i < s.length
  · have := h.2 i hi; unfold lowPkg at this; omega
  · have : nth s i = default := by
      unfold nth
      rw [List.getD_eq_getElem?_getD, List.getElem?_eq_none (by omega)]; rfl
    rw [this]
    exact ⟨by show ([] : List TFile).length ≤ _; simp, by show ([] : List TDep).length ≤ _; simp⟩
theorem lowPkgs.len {s : List TPkg} (h : lowPkgs s) : s.length ≤ 2000000 := Nat.le_trans h.1 (by decide)
def QSz (s : List TPkg) (k : Int) : SV → List SO → Prop := fun y os => ∃ z : Int, y = iI z ∧ os = [] ∧ (z ≤ k ∧ -1 ≤ z ∧ (0 ≤ z → lowPkgs s))
theorem s_szPkgS_L (s : List TPkg) (hs : okPkgs s) (k0 : Int) (hk0 : k0 ≤ 1048576) (hlen : s.length ≤ 1048576) : ∀ i, i ≤ s.length → (∀ j, j < i → lowPkg (nth s j)) → ∀ (q k : Int) (c : Nat), k = i → 0 ≤ q → q ≤ k0 →
    Ev (fun n => L15_5 (callF prg n) (n + 1) 0 (n + 1 - c) (.sl 4 (s.map ePkg)) (iI q) (iI k) []) (QSz s k0) := by
  refine up_ind ?_
  intro i hi ih hp q k c hk hq0 hq
  subst hk
  have hoi : i < s.length → okPkg (nth s i) := fun h => hs.2 _ (nth_mem h)
  by_cases hi2 : i < s.length
  · obtain ⟨z, hz, he⟩ := s_szPkg (nth s i) q (hoi hi2) ⟨by omega, by omega⟩
    (refine UL15_5 ?_; unfold LB15_5)
    repeat' (first | ((with_reducible refine eB ?_); first | ((with_reducible refine ev_lss ?_ ?_) <;> intro h <;> try (exfalso; omega)) | ((with_reducible refine ev_add ?_ ?_); · omega) | refine ev_bd rfl ?_ | refine ev_bd0 rfl ?_) | ((with_reducible refine eL ?_); first | ((with_reducible refine ev_lenm ?_ ?_); · rfl) | refine ev_lenom rfl rfl ?_ | refine ev_lenfm rfl rfl ?_ | refine ev_lenoc rfl rfl rfl ?_ | refine ev_lenc rfl rfl ?_ | refine ev_leno rfl rfl ?_ | refine ev_slen rfl ?_ | refine ev_bd rfl ?_ | refine ev_bd0 rfl ?_) | ((with_reducible refine eI ?_); first | ((with_reducible refine ev_idxn ?_ ?_ ?_); (· rfl); · omega) | (refine ev_idxon rfl rfl ?_ ?_; (· first | omega | (simp only [List.length_cons, List.length_nil, List.length_map, List.length_append]; omega))) | (refine ev_idxfn rfl rfl ?_ ?_; (focus omega)) | ((with_reducible refine ev_idx ?_ ?_ ?_); (· rfl); · omega) | (refine ev_idxo rfl rfl ?_ ?_; (· first | omega | (simp only [List.length_cons, List.length_nil, List.length_map, List.length_append]; omega))) | (refine ev_idxf rfl rfl ?_ ?_; (focus omega)) | refine ev_bd rfl ?_ | refine ev_bd0 rfl ?_) | ((with_reducible refine eC ?_); first | ((refine ev_call (he ..) rfl rfl ?_ rfl ?_); (focus first | exact .inl rfl | exact .inr rfl | (refine .inr ?_; simp [flagC, ownF, hasSl3, hasSl1, SO.hasSl, List.all_map, flatSV, SV.cells, Function.comp_def]; done)))) | ((with_reducible refine eK ?_); first | (with_reducible first | refine ev_ct ?_ | refine ev_cf ?_) | ((with_reducible refine ev_cond ?_ ?_) <;> intro h)) | ((with_reducible refine eO ?_); first | refine ev_bd rfl ?_ | (refine ev_bdB rfl ?_ ?_ <;> intro h <;> try (exfalso; simp_all; done)) | refine ev_bd0 rfl ?_ | (refine ev_ldm rfl ?_ rfl ?_; (focus omega)) | (refine ev_ldmB rfl ?_ rfl ?_ ?_; (focus omega); (all_goals intro h))) | ((with_reducible refine eD ?_); first | refine ev_bd rfl ?_ | refine ev_bd0 rfl ?_) | ((with_reducible refine ih ?_ (all_step hp ?_) _ _ _ ?_ ?_ ?_) <;> (first | omega | assumption | ((exact hz.2.2 (by omega))) | (simp only [*, List.map_append, List.length_append, List.length_cons, List.length_nil, List.map_cons, List.map_nil]; done) | (simp_all; done) | (simp_all; omega))) | refine ev_ret rfl ?_)
    all_goals first
      | exact ⟨-1, rfl, rfl, by omega, by omega, fun h => by omega⟩
      | trace_state
  · (refine UL15_5 ?_; unfold LB15_5)
    repeat' (first | ((with_reducible refine eB ?_); first | ((with_reducible refine ev_lss ?_ ?_) <;> intro h <;> try (exfalso; omega)) | ((with_reducible refine ev_add ?_ ?_); · omega) | refine ev_bd rfl ?_ | refine ev_bd0 rfl ?_) | ((with_reducible refine eL ?_); first | ((with_reducible refine ev_lenm ?_ ?_); · rfl) | refine ev_lenom rfl rfl ?_ | refine ev_lenfm rfl rfl ?_ | refine ev_lenoc rfl rfl rfl ?_ | refine ev_lenc rfl rfl ?_ | refine ev_leno rfl rfl ?_ | refine ev_slen rfl ?_ | refine ev_bd rfl ?_ | refine ev_bd0 rfl ?_) | ((with_reducible refine eI ?_); first | ((with_reducible refine ev_idxn ?_ ?_ ?_); (· rfl); · omega) | (refine ev_idxon rfl rfl ?_ ?_; (· first | omega | (simp only [List.length_cons, List.length_nil, List.length_map, List.length_append]; omega))) | (refine ev_idxfn rfl rfl ?_ ?_; (focus omega)) | ((with_reducible refine ev_idx ?_ ?_ ?_); (· rfl); · omega) | (refine ev_idxo rfl rfl ?_ ?_; (· first | omega | (simp only [List.length_cons, List.length_nil, List.length_map, List.length_append]; omega))) | (refine ev_idxf rfl rfl ?_ ?_; (focus omega)) | refine ev_bd rfl ?_ | refine ev_bd0 rfl ?_) | ((with_reducible refine eC ?_); first | fail) | ((with_reducible refine eK ?_); first | (with_reducible first | refine ev_ct ?_ | refine ev_cf ?_) | ((with_reducible refine ev_cond ?_ ?_) <;> intro h)) | ((with_reducible refine eO ?_); first | refine ev_bd rfl ?_ | (refine ev_bdB rfl ?_ ?_ <;> intro h <;> try (exfalso; simp_all; done)) | refine ev_bd0 rfl ?_ | (refine ev_ldm rfl ?_ rfl ?_; (focus omega)) | (refine ev_ldmB rfl ?_ rfl ?_ ?_; (focus omega); (all_goals intro h))) | ((with_reducible refine eD ?_); first | refine ev_bd rfl ?_ | refine ev_bd0 rfl ?_) | refine ev_ret rfl ?_)
    all_goals exact ⟨q, rfl, rfl, hq, by omega, fun _ => ⟨hlen, fun j hj => hp j (by omega)⟩⟩
theorem s_szPkgS (s : List TPkg) (hs : okPkgs s) (k : Int) (hk : -1 ≤ k ∧ k ≤ 1048576) : ∃ z : Int, (z ≤ k ∧ -1 ≤ z ∧ (0 ≤ z → lowPkgs s)) ∧ Ex (fun m => callF prg m 15 [.sl 4 (s.map ePkg), iI k] []) (iI z) [] := by
  have hl := hs.1
  have key : Ev (fun m => callF prg m 15 [.sl 4 (s.map ePkg), iI k] []) (QSz s k) := by
    (refine U15 (nl := 0) rfl ?_; unfold B15)
    repeat' (first | ((with_reducible refine eB ?_); first | ((with_reducible refine ev_lss ?_ ?_) <;> intro h <;> try (exfalso; omega)) | ((with_reducible refine ev_sub ?_ ?_); · omega) | refine ev_bd rfl ?_ | refine ev_bd0 rfl ?_) | ((with_reducible refine eL ?_); first | ((with_reducible refine ev_lenm ?_ ?_); · rfl) | refine ev_lenom rfl rfl ?_ | refine ev_lenfm rfl rfl ?_ | refine ev_lenoc rfl rfl rfl ?_ | refine ev_lenc rfl rfl ?_ | refine ev_leno rfl rfl ?_ | refine ev_slen rfl ?_ | refine ev_bd rfl ?_ | refine ev_bd0 rfl ?_) | ((with_reducible refine eK ?_); first | (with_reducible first | refine ev_ct ?_ | refine ev_cf ?_) | ((with_reducible refine ev_cond ?_ ?_) <;> intro h)) | ((with_reducible refine eD ?_); first | refine ev_bd rfl ?_ | refine ev_bd0 rfl ?_) | ( exact s_szPkgS_L s hs k hk.2 (by omega) 0 (by omega) (fun j hj => by omega) _ 0 0 rfl (by omega) (by omega)) | refine ev_ret rfl ?_)
    all_goals exact ⟨-1, rfl, rfl, by omega, by omega, fun h => by omega⟩
  obtain ⟨y, os, ⟨z, rfl, rfl, hz⟩, he⟩ := key
  exact ⟨z, hz, he⟩
theorem s_toFile (a b : Int) : Ex (fun m => callF prg m 113 [.ag [iI a, iI b]] []) (.ag [iI a, iI b]) [] := by
  refine ev_is.1 ?_
  (refine U113 (nl := 0) rfl ?_; unfold B113)
  repeat' (first | ((with_reducible refine eO ?_); first | refine ev_bd rfl ?_ | (refine ev_bdB rfl ?_ ?_ <;> intro h <;> try (exfalso; simp_all; done)) | refine ev_bd0 rfl ?_ | (refine ev_ldm rfl ?_ rfl ?_; (focus omega)) | (refine ev_ldmB rfl ?_ rfl ?_ ?_; (focus omega); (all_goals intro h))) | ((with_reducible refine eD ?_); first | refine ev_bd rfl ?_ | refine ev_bd0 rfl ?_) | refine ev_ret rfl ?_)
  all_goals exact ⟨rfl, rfl⟩
theorem s_toDep (a b : Int) : Ex (fun m => callF prg m 114 [.ag [iI a, iI b]] []) (.ag [iI a, iI b]) [] := by
  refine ev_is.1 ?_
  (refine U114 (nl := 0) rfl ?_; unfold B114)
  repeat' (first | ((with_reducible refine eO ?_); first | refine ev_bd rfl ?_ | (refine ev_bdB rfl ?_ ?_ <;> intro h <;> try (exfalso; simp_all; done)) | refine ev_bd0 rfl ?_ | (refine ev_ldm rfl ?_ rfl ?_; (focus omega)) | (refine ev_ldmB rfl ?_ rfl ?_ ?_; (focus omega); (all_goals intro h))) | ((with_reducible refine eD ?_); first | refine ev_bd rfl ?_ | refine ev_bd0 rfl ?_) | refine ev_ret rfl ?_)
  all_goals exact ⟨rfl, rfl⟩
theorem s_toFileS_L (l : List TFile) (hl : l.length ≤ 2000000) : ∀ i, i ≤ l.length → ∀ (w : List TFile), w.length = l.length → (∀ j, j < i → nth w j = nth l j) → ∀ (k : Int) (c : Nat), k = i →
    Ev (fun n => L90_3 (callF prg n) (n + 1) 0 (n + 1 - c) (.sl 2 (l.map eFile)) (.osl 1) (iI k) [.arr false 2 [], .arr false 2 (w.map eFile)]) (Is (.osl 0) [.arr false 2 (l.map eFile)]) := by
  refine up_ind ?_
  intro i hi ih w hw hp k c hk
  subst hk
  (refine UL90_3 ?_; unfold LB90_3)
  repeat' (first | ((with_reducible refine eB ?_); first | ((with_reducible refine ev_lss ?_ ?_) <;> intro h <;> try (exfalso; omega)) | ((with_reducible refine ev_add ?_ ?_); · omega) | refine ev_bd rfl ?_ | refine ev_bd0 rfl ?_) | ((with_reducible refine eL ?_); first | ((with_reducible refine ev_lenm ?_ ?_); · rfl) | refine ev_lenom rfl rfl ?_ | refine ev_lenfm rfl rfl ?_ | refine ev_lenoc rfl rfl rfl ?_ | refine ev_lenc rfl rfl ?_ | refine ev_leno rfl rfl ?_ | refine ev_slen rfl ?_ | refine ev_bd rfl ?_ | refine ev_bd0 rfl ?_) | ((with_reducible refine eI ?_); first | ((with_reducible refine ev_idxn ?_ ?_ ?_); (· rfl); · omega) | (refine ev_idxon rfl rfl ?_ ?_; (· first | omega | (simp only [List.length_cons, List.length_nil, List.length_map, List.length_append]; omega))) | (refine ev_idxfn rfl rfl ?_ ?_; (focus omega)) | ((with_reducible refine ev_idx ?_ ?_ ?_); (· rfl); · omega) | (refine ev_idxo rfl rfl ?_ ?_; (· first | omega | (simp only [List.length_cons, List.length_nil, List.length_map, List.length_append]; omega))) | (refine ev_idxf rfl rfl ?_ ?_; (focus omega)) | refine ev_bd rfl ?_ | refine ev_bd0 rfl ?_) | ((with_reducible refine eC ?_); first | ((refine ev_call (s_toFile ..) rfl rfl ?_ rfl ?_); (focus first | exact .inl rfl | exact .inr rfl | (refine .inr ?_; simp [flagC, ownF, hasSl3, hasSl1, SO.hasSl, List.all_map, flatSV, SV.cells, Function.comp_def]; done)))) | ((with_reducible refine eK ?_); first | (with_reducible first | refine ev_ct ?_ | refine ev_cf ?_) | ((with_reducible refine ev_cond ?_ ?_) <;> intro h)) | ((with_reducible refine eO ?_); first | refine ev_bd rfl ?_ | (refine ev_bdB rfl ?_ ?_ <;> intro h <;> try (exfalso; simp_all; done)) | refine ev_bd0 rfl ?_ | (refine ev_ldm rfl ?_ rfl ?_; (focus omega)) | (refine ev_ldmB rfl ?_ rfl ?_ ?_; (focus omega); (all_goals intro h))) | ((with_reducible refine eD ?_); first | refine ev_bd rfl ?_ | refine ev_bd0 rfl ?_ | ( (refine ev_sto (f := eFile) (a := nth l i) rfl rfl rfl rfl rfl rfl rfl rfl ?_ rfl ?_; (focus omega)))) | ((with_reducible refine ih ?_ _ ?_ ?_ _ _ ?_) <;> (first | omega | assumption | ((first | (rw [List.length_set]; exact hw) | (intro j hj; rw [nth_set']; split; (rename_i e; rw [e.1]); (rename_i e; exact hp j (by omega))))) | (simp only [*, List.map_append, List.length_append, List.length_cons, List.length_nil, List.map_cons, List.map_nil]; done) | (simp_all; done) | (simp_all; omega))) | refine ev_ret rfl ?_)
  all_goals (obtain rfl : w = l := eq_of_nth hw fun j hj => hp j (by omega))
  all_goals exact ⟨rfl, rfl⟩
theorem s_toFileS (l : List TFile) (hl : l.length ≤ 2000000) : Ex (fun m => callF prg m 90 [.sl 2 (l.map eFile)] []) (.osl 0) [.arr false 2 (l.map eFile)] := by
  refine ev_is.1 ?_
  (refine U90 (nl := 0) rfl ?_; unfold B90)
  repeat' (first | ((with_reducible refine eL ?_); first | ((with_reducible refine ev_lenm ?_ ?_); · rfl) | refine ev_lenom rfl rfl ?_ | refine ev_lenfm rfl rfl ?_ | refine ev_lenoc rfl rfl rfl ?_ | refine ev_lenc rfl rfl ?_ | refine ev_leno rfl rfl ?_ | refine ev_slen rfl ?_ | refine ev_bd rfl ?_ | refine ev_bd0 rfl ?_) | ((with_reducible refine eD ?_); first | refine ev_bd rfl ?_ | refine ev_bd0 rfl ?_ | ( (refine ev_mk (f := eFile) (z := ⟨0, 0⟩) rfl rfl rfl ?_ ?_; (focus (dsimp only; omega))))) | ( exact s_toFileS_L l hl 0 (by omega) _ (by simp) (fun j hj => by omega) 0 0 rfl) | refine ev_ret rfl ?_)
theorem s_toDepS_L (l : List TDep) (hl : l.length ≤ 2000000) : ∀ i, i ≤ l.length → ∀ (w : List TDep), w.length = l.length → (∀ j, j < i → nth w j = nth l j) → ∀ (k : Int) (c : Nat), k = i →
    Ev (fun n => L91_3 (callF prg n) (n + 1) 0 (n + 1 - c) (.sl 2 (l.map eDep)) (.osl 1) (iI k) [.arr false 2 [], .arr false 2 (w.map eDep)]) (Is (.osl 0) [.arr false 2 (l.map eDep)]) := by
  refine up_ind ?_
  intro i hi ih w hw hp k c hk
  subst hk
  (refine UL91_3 ?_; unfold LB91_3)
  repeat' (first | ((with_reducible refine eB ?_); first | ((with_reducible refine ev_lss ?_ ?_) <;> intro h <;> try (exfalso; omega)) | ((with_reducible refine ev_add ?_ ?_); · omega) | refine ev_bd rfl ?_ | refine ev_bd0 rfl ?_) | ((with_reducible refine eL ?_); first | ((with_reducible refine ev_lenm ?_ ?_); · rfl) | refine ev_lenom rfl rfl ?_ | refine ev_lenfm rfl rfl ?_ | refine ev_lenoc rfl rfl rfl ?_ | refine ev_lenc rfl rfl ?_ | refine ev_leno rfl rfl ?_ | refine ev_slen rfl ?_ | refine ev_bd rfl ?_ | refine ev_bd0 rfl ?_) | ((with_reducible refine eI ?_); first | ((with_reducible refine ev_idxn ?_ ?_ ?_); (· rfl); · omega) | (refine ev_idxon rfl rfl ?_ ?_; (· first | omega | (simp only [List.length_cons, List.length_nil, List.length_map, List.length_append]; omega))) | (refine ev_idxfn rfl rfl ?_ ?_; (focus omega)) | ((with_reducible refine ev_idx ?_ ?_ ?_); (· rfl); · omega) | (refine ev_idxo rfl rfl ?_ ?_; (· first | omega | (simp only [List.length_cons, List.length_nil, List.length_map, List.length_append]; omega))) | (refine ev_idxf rfl rfl ?_ ?_; (focus omega)) | refine ev_bd rfl ?_ | refine ev_bd0 rfl ?_) | ((with_reducible refine eC ?_); first | ((refine ev_call (s_toDep ..) rfl rfl ?_ rfl ?_); (focus first | exact .inl rfl | exact .inr rfl | (refine .inr ?_; simp [flagC, ownF, hasSl3, hasSl1, SO.hasSl, List.all_map, flatSV, SV.cells, Function.comp_def]; done)))) | ((with_reducible refine eK ?_); first | (with_reducible first | refine ev_ct ?_ | refine ev_cf ?_) | ((with_reducible refine ev_cond ?_ ?_) <;> intro h)) | ((with_reducible refine eO ?_); first | refine ev_bd rfl ?_ | (refine ev_bdB rfl ?_ ?_ <;> intro h <;> try (exfalso; simp_all; done)) | refine ev_bd0 rfl ?_ | (refine ev_ldm rfl ?_ rfl ?_; (focus omega)) | (refine ev_ldmB rfl ?_ rfl ?_ ?_; (focus omega); (all_goals intro h))) | ((with_reducible refine eD ?_); first | refine ev_bd rfl ?_ | refine ev_bd0 rfl ?_ | ( (refine ev_sto (f := eDep) (a := nth l i) rfl rfl rfl rfl rfl rfl rfl rfl ?_ rfl ?_; (focus omega)))) | ((with_reducible refine ih ?_ _ ?_ ?_ _ _ ?_) <;> (first | omega | assumption | ((first | (rw [List.length_set]; exact hw) | (intro j hj; rw [nth_set']; split; (rename_i e; rw [e.1]); (rename_i e; exact hp j (by omega))))) | (simp only [*, List.map_append, List.length_append, List.length_cons, List.length_nil, List.map_cons, List.map_nil]; done) | (simp_all; done) | (simp_all; omega))) | refine ev_ret rfl ?_)
  all_goals (obtain rfl : w = l := eq_of_nth hw fun j hj => hp j (by omega))
  all_goals exact ⟨rfl, rfl⟩
theorem s_toDepS (l : List TDep) (hl : l.length ≤ 2000000) : Ex (fun m => callF prg m 91 [.sl 2 (l.map eDep)] []) (.osl 0) [.arr false 2 (l.map eDep)] := by
  refine ev_is.1 ?_
  (refine U91 (nl := 0) rfl ?_; unfold B91)
  repeat' (first | ((with_reducible refine eL ?_); first | ((with_reducible refine ev_lenm ?_ ?_); · rfl) | refine ev_lenom rfl rfl ?_ | refine ev_lenfm rfl rfl ?_ | refine ev_lenoc rfl rfl rfl ?_ | refine ev_lenc rfl rfl ?_ | refine ev_leno rfl rfl ?_ | refine ev_slen rfl ?_ | refine ev_bd rfl ?_ | refine ev_bd0 rfl ?_) | ((with_reducible refine eD ?_); first | refine ev_bd rfl ?_ | refine ev_bd0 rfl ?_ | ( (refine ev_mk (f := eDep) (z := ⟨0, 0⟩) rfl rfl rfl ?_ ?_; (focus (dsimp only; omega))))) | ( exact s_toDepS_L l hl 0 (by omega) _ (by simp) (fun j hj => by omega) 0 0 rfl) | refine ev_ret rfl ?_)
theorem s_toPkg (p : TPkg) (h1 : p.files.length ≤ 2000000) (h2 : p.deps.length ≤ 2000000) : Ex (fun m => callF prg m 55 [ePkg p] []) (rPkg p 0 1) (oPkg p) := by
  refine ev_is.1 ?_
  (refine U55 (nl := 0) rfl ?_; unfold B55)
  repeat' (first | ((with_reducible refine eC ?_); first | ((refine ev_call (s_toFileS p.files h1) rfl rfl ?_ rfl ?_); (focus first | exact .inl rfl | exact .inr rfl | (refine .inr ?_; simp [flagC, ownF, hasSl3, hasSl1, SO.hasSl, List.all_map, flatSV, SV.cells, Function.comp_def]; done))) | ((refine ev_call (s_toDepS p.deps h2) rfl rfl ?_ rfl ?_); (focus first | exact .inl rfl | exact .inr rfl | (refine .inr ?_; simp [flagC, ownF, hasSl3, hasSl1, SO.hasSl, List.all_map, flatSV, SV.cells, Function.comp_def]; done)))) | ((with_reducible refine eO ?_); first | refine ev_bd rfl ?_ | (refine ev_bdB rfl ?_ ?_ <;> intro h <;> try (exfalso; simp_all; done)) | refine ev_bd0 rfl ?_ | (refine ev_ldm rfl ?_ rfl ?_; (focus omega)) | (refine ev_ldmB rfl ?_ rfl ?_ ?_; (focus omega); (all_goals intro h))) | ((with_reducible refine eD ?_); first | refine ev_bd rfl ?_ | refine ev_bd0 rfl ?_) | refine ev_ret rfl ?_)
  all_goals exact ⟨rfl, rfl⟩
theorem s_toPkgS_L (l : List TPkg) (hl : lowPkgs l) : ∀ i, i ≤ l.length → ∀ (w : List TPkg), w.length = l.length → (∀ j, j < i → nth w j = nth l j) → ∀ (k : Int) (c : Nat), k = i →
    Ev (fun n => G18_3 (callF prg n) (n + 1) 0 (n + 1 - c) [.sl 4 (l.map ePkg), .osl 0, iI k] [.arr false 4 (w.map ePkg)]) (Is (.osl 0) [.arr false 4 (l.map ePkg)]) := by
  have hp0 := hl.pl
  have hll := hl.len
  refine up_ind ?_
  intro i hi ih w hw hp k c hk
  subst hk
  (refine UG18_3 _ ?_; unfold GB18_3)
  repeat' (first | ((with_reducible refine eB ?_); first | ((with_reducible refine ev_lss ?_ ?_) <;> intro h <;> try (exfalso; omega)) | ((with_reducible refine ev_add ?_ ?_); · omega) | refine ev_bd rfl ?_ | refine ev_bd0 rfl ?_) | ((with_reducible refine eL ?_); first | ((with_reducible refine ev_lenm ?_ ?_); · rfl) | refine ev_lenom rfl rfl ?_ | refine ev_lenfm rfl rfl ?_ | refine ev_lenoc rfl rfl rfl ?_ | refine ev_lenc rfl rfl ?_ | refine ev_leno rfl rfl ?_ | refine ev_slen rfl ?_ | refine ev_bd rfl ?_ | refine ev_bd0 rfl ?_) | ((with_reducible refine eI ?_); first | ((with_reducible refine ev_idxn ?_ ?_ ?_); (· rfl); · omega) | (refine ev_idxon rfl rfl ?_ ?_; (· first | omega | (simp only [List.length_cons, List.length_nil, List.length_map, List.length_append]; omega))) | (refine ev_idxfn rfl rfl ?_ ?_; (focus omega)) | ((with_reducible refine ev_idx ?_ ?_ ?_); (· rfl); · omega) | (refine ev_idxo rfl rfl ?_ ?_; (· first | omega | (simp only [List.length_cons, List.length_nil, List.length_map, List.length_append]; omega))) | (refine ev_idxf rfl rfl ?_ ?_; (focus omega)) | refine ev_bd rfl ?_ | refine ev_bd0 rfl ?_) | ((with_reducible refine eC ?_); first | ((refine ev_call (s_toPkg (nth l i) (hp0 i).1 (hp0 i).2) rfl rfl ?_ rfl ?_); (focus first | exact .inl rfl | exact .inr rfl | (refine .inr ?_; simp [flagC, ownF, hasSl3, hasSl1, SO.hasSl, List.all_map, flatSV, SV.cells, Function.comp_def]; done)))) | ((with_reducible refine eK ?_); first | (with_reducible first | refine ev_ct ?_ | refine ev_cf ?_) | ((with_reducible refine ev_cond ?_ ?_) <;> intro h)) | ((with_reducible refine eO ?_); first | refine ev_bd rfl ?_ | (refine ev_bdB rfl ?_ ?_ <;> intro h <;> try (exfalso; simp_all; done)) | refine ev_bd0 rfl ?_ | (refine ev_ldm rfl ?_ rfl ?_; (focus omega)) | (refine ev_ldmB rfl ?_ rfl ?_ ?_; (focus omega); (all_goals intro h))) | ((with_reducible refine eD ?_); first | refine ev_bd rfl ?_ | refine ev_bd0 rfl ?_ | ( (refine ev_sto (f := ePkg) (a := nth l i) rfl rfl rfl rfl rfl rfl rfl rfl ?_ rfl ?_; (focus omega)))) | ((with_reducible refine eH ?_); first | refine ev_gcB rfl ?_) | (with_reducible first | refine UL18_3 ?_ | refine VL18_3 ?_) | ((with_reducible refine ih ?_ _ ?_ ?_ _ _ ?_) <;> (first | omega | assumption | ((first | (rw [List.length_set]; exact hw) | (intro j hj; rw [nth_set']; split; (rename_i e; rw [e.1]); (rename_i e; exact hp j (by omega))))) | (simp only [*, List.map_append, List.length_append, List.length_cons, List.length_nil, List.map_cons, List.map_nil]; done) | (simp_all; done) | (simp_all; omega))) | refine ev_ret rfl ?_)
  all_goals (obtain rfl : w = l := eq_of_nth hw fun j hj => hp j (by omega))
  all_goals exact ⟨rfl, rfl⟩
theorem s_toPkgS (l : List TPkg) (hl : lowPkgs l) : Ex (fun m => callF prg m 18 [.sl 4 (l.map ePkg)] []) (.osl 0) [.arr false 4 (l.map ePkg)] := by
  have hll := hl.1
  refine ev_is.1 ?_
  (refine U18 (nl := 0) rfl ?_; unfold B18)
  repeat' (first | ((with_reducible refine eL ?_); first | ((with_reducible refine ev_lenm ?_ ?_); · rfl) | refine ev_lenom rfl rfl ?_ | refine ev_lenfm rfl rfl ?_ | refine ev_lenoc rfl rfl rfl ?_ | refine ev_lenc rfl rfl ?_ | refine ev_leno rfl rfl ?_ | refine ev_slen rfl ?_ | refine ev_bd rfl ?_ | refine ev_bd0 rfl ?_) | ((with_reducible refine eD ?_); first | refine ev_bd rfl ?_ | refine ev_bd0 rfl ?_ | ( (refine ev_mk (f := ePkg) (z := zPkg) rfl rfl rfl ?_ ?_; (focus (dsimp only; omega))))) | ((with_reducible refine eH ?_); first | refine ev_gcB rfl ?_) | (with_reducible first | refine UL18_3 ?_ | refine VL18_3 ?_) | ( exact s_toPkgS_L l hl 0 (by omega) _ (by simp) (fun j hj => by omega) 0 _ rfl) | refine ev_ret rfl ?_)
theorem s_eqFile (a b a' b' : Int) : Ex (fun m => callF prg m 117 [.ag [iI a, iI b], .ag [iI a', iI b']] []) (bB (decide (a = a' ∧ b = b'))) [] := by
  refine ev_is.1 ?_
  (refine U117 (nl := 0) rfl ?_; unfold B117)
  repeat' (first | ((with_reducible refine eB ?_); first | ((with_reducible refine ev_neq ?_ ?_) <;> intro h <;> try (exfalso; omega)) | refine ev_bd rfl ?_ | refine ev_bd0 rfl ?_) | ((with_reducible refine eK ?_); first | (with_reducible first | refine ev_ct ?_ | refine ev_cf ?_) | ((with_reducible refine ev_cond ?_ ?_) <;> intro h)) | ((with_reducible refine eO ?_); first | refine ev_bd rfl ?_ | (refine ev_bdB rfl ?_ ?_ <;> intro h <;> try (exfalso; simp_all; done)) | refine ev_bd0 rfl ?_ | (refine ev_ldm rfl ?_ rfl ?_; (focus omega)) | (refine ev_ldmB rfl ?_ rfl ?_ ?_; (focus omega); (all_goals intro h))) | ((with_reducible refine eD ?_); first | refine ev_bd rfl ?_ | refine ev_bd0 rfl ?_) | refine ev_ret rfl ?_)
  all_goals (refine ⟨congrArg (fun b => SV.v (Value.bool b)) ?_, rfl⟩; first | (simp_all []; done) | (simp_all []; omega) | (simp [] at *; omega) | (simp []; omega) | grind [] | trace_state)
theorem s_eqDep (a b a' b' : Int) : Ex (fun m => callF prg m 118 [.ag [iI a, iI b], .ag [iI a', iI b']] []) (bB (decide (a = a' ∧ b = b'))) [] := by
  refine ev_is.1 ?_
  (refine U118 (nl := 0) rfl ?_; unfold B118)
  repeat' (first | ((with_reducible refine eB ?_); first | ((with_reducible refine ev_neq ?_ ?_) <;> intro h <;> try (exfalso; omega)) | refine ev_bd rfl ?_ | refine ev_bd0 rfl ?_) | ((with_reducible refine eK ?_); first | (with_reducible first | refine ev_ct ?_ | refine ev_cf ?_) | ((with_reducible refine ev_cond ?_ ?_) <;> intro h)) | ((with_reducible refine eO ?_); first | refine ev_bd rfl ?_ | (refine ev_bdB rfl ?_ ?_ <;> intro h <;> try (exfalso; simp_all; done)) | refine ev_bd0 rfl ?_ | (refine ev_ldm rfl ?_ rfl ?_; (focus omega)) | (refine ev_ldmB rfl ?_ rfl ?_ ?_; (focus omega); (all_goals intro h))) | ((with_reducible refine eD ?_); first | refine ev_bd rfl ?_ | refine ev_bd0 rfl ?_) | refine ev_ret rfl ?_)
  all_goals (refine ⟨congrArg (fun b => SV.v (Value.bool b)) ?_, rfl⟩; first | (simp_all []; done) | (simp_all []; omega) | (simp [] at *; omega) | (simp []; omega) | grind [] | trace_state)
theorem s_eqFileS_L (a b : List TFile) (hl : a.length = b.length) (h47 : a.length ≤ 2000000) : ∀ i, i ≤ a.length → (∀ j, j < i → nth a j = nth b j) → ∀ (k : Int) (c : Nat), k = i →
    Ev (fun n => L96_4 (callF prg n) (n + 1) 0 (n + 1 - c) (.sl 2 (a.map eFile)) (.sl 2 (b.map eFile)) (iI k) []) (Is (bB (decide (a = b))) []) := by
  refine up_ind ?_
  intro i hi ih hp k c hk
  subst hk
  (refine UL96_4 ?_; unfold LB96_4)
  repeat' (first | ((with_reducible refine eB ?_); first | ((with_reducible refine ev_lss ?_ ?_) <;> intro h <;> try (exfalso; omega)) | ((with_reducible refine ev_add ?_ ?_); · omega) | refine ev_bd rfl ?_ | refine ev_bd0 rfl ?_) | ((with_reducible refine eL ?_); first | ((with_reducible refine ev_lenm ?_ ?_); · rfl) | refine ev_lenom rfl rfl ?_ | refine ev_lenfm rfl rfl ?_ | refine ev_lenoc rfl rfl rfl ?_ | refine ev_lenc rfl rfl ?_ | refine ev_leno rfl rfl ?_ | refine ev_slen rfl ?_ | refine ev_bd rfl ?_ | refine ev_bd0 rfl ?_) | ((with_reducible refine eI ?_); first | ((with_reducible refine ev_idxn ?_ ?_ ?_); (· rfl); · omega) | (refine ev_idxon rfl rfl ?_ ?_; (· first | omega | (simp only [List.length_cons, List.length_nil, List.length_map, List.length_append]; omega))) | (refine ev_idxfn rfl rfl ?_ ?_; (focus omega)) | ((with_reducible refine ev_idx ?_ ?_ ?_); (· rfl); · omega) | (refine ev_idxo rfl rfl ?_ ?_; (· first | omega | (simp only [List.length_cons, List.length_nil, List.length_map, List.length_append]; omega))) | (refine ev_idxf rfl rfl ?_ ?_; (focus omega)) | refine ev_bd rfl ?_ | refine ev_bd0 rfl ?_) | ((with_reducible refine eC ?_); first | ((refine ev_callD (s_eqFile _ _ _ _) rfl rfl ?_ rfl rfl ?_ ?_); (focus first | exact .inl rfl | exact .inr rfl | (refine .inr ?_; simp [flagC, ownF, hasSl3, hasSl1, SO.hasSl, List.all_map, flatSV, SV.cells, Function.comp_def]; done)); (all_goals (intro h)); (all_goals (try (exfalso; first | omega | exact h rfl | exact h ⟨rfl, rfl, rfl⟩))))) | ((with_reducible refine eK ?_); first | (with_reducible first | refine ev_ct ?_ | refine ev_cf ?_) | ((with_reducible refine ev_cond ?_ ?_) <;> intro h)) | ((with_reducible refine eO ?_); first | refine ev_bd rfl ?_ | (refine ev_bdB rfl ?_ ?_ <;> intro h <;> try (exfalso; simp_all; done)) | refine ev_bd0 rfl ?_ | (refine ev_ldm rfl ?_ rfl ?_; (focus omega)) | (refine ev_ldmB rfl ?_ rfl ?_ ?_; (focus omega); (all_goals intro h))) | ((with_reducible refine eD ?_); first | refine ev_bd rfl ?_ | refine ev_bd0 rfl ?_) | ((with_reducible refine ih ?_ (all_step hp ?_) _ _ ?_) <;> (first | omega | assumption | ((exact TFile.eq2 h)) | (simp only [*, List.map_append, List.length_append, List.length_cons, List.length_nil, List.map_cons, List.map_nil]; done) | (simp_all; done) | (simp_all; omega))) | refine ev_ret rfl ?_)
  · exact ⟨congrArg bB (Eq.symm (decide_eq_false fun e => h (by rw [e]; exact ⟨rfl, rfl⟩))), rfl⟩
  · exact ⟨congrArg bB (Eq.symm (decide_eq_true (eq_of_nth hl fun j hj => hp j (by omega)))), rfl⟩
theorem s_eqFileS (a b : List TFile) (h47 : a.length ≤ 2000000) : Ex (fun m => callF prg m 96 [.sl 2 (a.map eFile), .sl 2 (b.map eFile)] []) (bB (decide (a = b))) [] := by
  refine ev_is.1 ?_
  (refine U96 (nl := 0) rfl ?_; unfold B96)
  repeat' (first | ((with_reducible refine eB ?_); first | ((with_reducible refine ev_neq ?_ ?_) <;> intro h <;> try (exfalso; omega)) | refine ev_bd rfl ?_ | refine ev_bd0 rfl ?_) | ((with_reducible refine eL ?_); first | ((with_reducible refine ev_lenm ?_ ?_); · rfl) | refine ev_lenom rfl rfl ?_ | refine ev_lenfm rfl rfl ?_ | refine ev_lenoc rfl rfl rfl ?_ | refine ev_lenc rfl rfl ?_ | refine ev_leno rfl rfl ?_ | refine ev_slen rfl ?_ | refine ev_bd rfl ?_ | refine ev_bd0 rfl ?_) | ((with_reducible refine eK ?_); first | (with_reducible first | refine ev_ct ?_ | refine ev_cf ?_) | ((with_reducible refine ev_cond ?_ ?_) <;> intro h)) | ((with_reducible refine eD ?_); first | refine ev_bd rfl ?_ | refine ev_bd0 rfl ?_) | ( exact s_eqFileS_L a b (by omega) h47 0 (by omega) (fun j hj => by omega) 0 0 rfl) | refine ev_ret rfl ?_)
  all_goals (refine ⟨congrArg bB (Eq.symm (decide_eq_false fun e => ?_)), rfl⟩; subst e; omega)
theorem s_eqDepS_L (a b : List TDep) (hl : a.length = b.length) (h47 : a.length ≤ 2000000) : ∀ i, i ≤ a.length → (∀ j, j < i → nth a j = nth b j) → ∀ (k : Int) (c : Nat), k = i →
    Ev (fun n => L97_4 (callF prg n) (n + 1) 0 (n + 1 - c) (.sl 2 (a.map eDep)) (.sl 2 (b.map eDep)) (iI k) []) (Is (bB (decide (a = b))) []) := by
  refine up_ind ?_
  intro i hi ih hp k c hk
  subst hk
  (refine UL97_4 ?_; unfold LB97_4)
  repeat' (first | ((with_reducible refine eB ?_); first | ((with_reducible refine ev_lss ?_ ?_) <;> intro h <;> try (exfalso; omega)) | ((with_reducible refine ev_add ?_ ?_); · omega) | refine ev_bd rfl ?_ | refine ev_bd0 rfl ?_) | ((with_reducible refine eL ?_); first | ((with_reducible refine ev_lenm ?_ ?_); · rfl) | refine ev_lenom rfl rfl ?_ | refine ev_lenfm rfl rfl ?_ | refine ev_lenoc rfl rfl rfl ?_ | refine ev_lenc rfl rfl ?_ | refine ev_leno rfl rfl ?_ | refine ev_slen rfl ?_ | refine ev_bd rfl ?_ | refine ev_bd0 rfl ?_) | ((with_reducible refine eI ?_); first | ((with_reducible refine ev_idxn ?_ ?_ ?_); (· rfl); · omega) | (refine ev_idxon rfl rfl ?_ ?_; (· first | omega | (simp only [List.length_cons, List.length_nil, List.length_map, List.length_append]; omega))) | (refine ev_idxfn rfl rfl ?_ ?_; (focus omega)) | ((with_reducible refine ev_idx ?_ ?_ ?_); (· rfl); · omega) | (refine ev_idxo rfl rfl ?_ ?_; (· first | omega | (simp only [List.length_cons, List.length_nil, List.length_map, List.length_append]; omega))) | (refine ev_idxf rfl rfl ?_ ?_; (focus omega)) | refine ev_bd rfl ?_ | refine ev_bd0 rfl ?_) | ((with_reducible refine eC ?_); first | ((refine ev_callD (s_eqDep _ _ _ _) rfl rfl ?_ rfl rfl ?_ ?_); (focus first | exact .inl rfl | exact .inr rfl | (refine .inr ?_; simp [flagC, ownF, hasSl3, hasSl1, SO.hasSl, List.all_map, flatSV, SV.cells, Function.comp_def]; done)); (all_goals (intro h)); (all_goals (try (exfalso; first | omega | exact h rfl | exact h ⟨rfl, rfl, rfl⟩))))) | ((with_reducible refine eK ?_); first | (with_reducible first | refine ev_ct ?_ | refine ev_cf ?_) | ((with_reducible refine ev_cond ?_ ?_) <;> intro h)) | ((with_reducible refine eO ?_); first | refine ev_bd rfl ?_ | (refine ev_bdB rfl ?_ ?_ <;> intro h <;> try (exfalso; simp_all; done)) | refine ev_bd0 rfl ?_ | (refine ev_ldm rfl ?_ rfl ?_; (focus omega)) | (refine ev_ldmB rfl ?_ rfl ?_ ?_; (focus omega); (all_goals intro h))) | ((with_reducible refine eD ?_); first | refine ev_bd rfl ?_ | refine ev_bd0 rfl ?_) | ((with_reducible refine ih ?_ (all_step hp ?_) _ _ ?_) <;> (first | omega | assumption | ((exact TDep.eq2 h)) | (simp only [*, List.map_append, List.length_append, List.length_cons, List.length_nil, List.map_cons, List.map_nil]; done) | (simp_all; done) | (simp_all; omega))) | refine ev_ret rfl ?_)
  · exact ⟨congrArg bB (Eq.symm (decide_eq_false fun e => h (by rw [e]; exact ⟨rfl, rfl⟩))), rfl⟩
  · exact ⟨congrArg bB (Eq.symm (decide_eq_true (eq_of_nth hl fun j hj => hp j (by omega)))), rfl⟩
theorem s_eqDepS (a b : List TDep) (h47 : a.length ≤ 2000000) : Ex (fun m => callF prg m 97 [.sl 2 (a.map eDep), .sl 2 (b.map eDep)] []) (bB (decide (a = b))) [] := by
  refine ev_is.1 ?_
  (refine U97 (nl := 0) rfl ?_; unfold B97)
  repeat' (first | ((with_reducible refine eB ?_); first | ((with_reducible refine ev_neq ?_ ?_) <;> intro h <;> try (exfalso; omega)) | refine ev_bd rfl ?_ | refine ev_bd0 rfl ?_) | ((with_reducible refine eL ?_); first | ((with_reducible refine ev_lenm ?_ ?_); · rfl) | refine ev_lenom rfl rfl ?_ | refine ev_lenfm rfl rfl ?_ | refine ev_lenoc rfl rfl rfl ?_ | refine ev_lenc rfl rfl ?_ | refine ev_leno rfl rfl ?_ | refine ev_slen rfl ?_ | refine ev_bd rfl ?_ | refine ev_bd0 rfl ?_) | ((with_reducible refine eK ?_); first | (with_reducible first | refine ev_ct ?_ | refine ev_cf ?_) | ((with_reducible refine ev_cond ?_ ?_) <;> intro h)) | ((with_reducible refine eD ?_); first | refine ev_bd rfl ?_ | refine ev_bd0 rfl ?_) | ( exact s_eqDepS_L a b (by omega) h47 0 (by omega) (fun j hj => by omega) 0 0 rfl) | refine ev_ret rfl ?_)
  all_goals (refine ⟨congrArg bB (Eq.symm (decide_eq_false fun e => ?_)), rfl⟩; subst e; omega)
theorem s_eqPkg (a b : TPkg) (h1 : a.files.length ≤ 2000000) (h2 : a.deps.length ≤ 2000000) : Ex (fun m => callF prg m 62 [ePkg a, ePkg b] []) (bB (decide (a = b))) [] := by
  refine ev_is.1 ?_
  cases a; cases b
  (refine U62 (nl := 0) rfl ?_; unfold B62)
  repeat' (first | ((with_reducible refine eB ?_); first | ((with_reducible refine ev_neq ?_ ?_) <;> intro h <;> try (exfalso; omega)) | refine ev_bd rfl ?_ | refine ev_bd0 rfl ?_) | ((with_reducible refine eC ?_); first | ((refine ev_callD (s_eqFileS _ _ h1) rfl rfl ?_ rfl rfl ?_ ?_); (focus first | exact .inl rfl | exact .inr rfl | (refine .inr ?_; simp [flagC, ownF, hasSl3, hasSl1, SO.hasSl, List.all_map, flatSV, SV.cells, Function.comp_def]; done)); (all_goals (intro h)); (all_goals (try (exfalso; first | omega | exact h rfl | exact h ⟨rfl, rfl, rfl⟩)))) | ((refine ev_callD (s_eqDepS _ _ h2) rfl rfl ?_ rfl rfl ?_ ?_); (focus first | exact .inl rfl | exact .inr rfl | (refine .inr ?_; simp [flagC, ownF, hasSl3, hasSl1, SO.hasSl, List.all_map, flatSV, SV.cells, Function.comp_def]; done)); (all_goals (intro h)); (all_goals (try (exfalso; first | omega | exact h rfl | exact h ⟨rfl, rfl, rfl⟩))))) | ((with_reducible refine eK ?_); first | (with_reducible first | refine ev_ct ?_ | refine ev_cf ?_) | ((with_reducible refine ev_cond ?_ ?_) <;> intro h)) | ((with_reducible refine eO ?_); first | refine ev_bd rfl ?_ | (refine ev_bdB rfl ?_ ?_ <;> intro h <;> try (exfalso; simp_all; done)) | refine ev_bd0 rfl ?_ | (refine ev_ldm rfl ?_ rfl ?_; (focus omega)) | (refine ev_ldmB rfl ?_ rfl ?_ ?_; (focus omega); (all_goals intro h))) | ((with_reducible refine eD ?_); first | refine ev_bd rfl ?_ | refine ev_bd0 rfl ?_) | refine ev_ret rfl ?_)
  all_goals (refine ⟨congrArg (fun b => SV.v (Value.bool b)) ?_, rfl⟩; first | (simp_all []; done) | (simp_all []; omega) | (simp [] at *; omega) | (simp []; omega) | grind [] | trace_state)
theorem s_eqPkgS_L (a b : List TPkg) (hl : a.length = b.length) (h47 : a.length ≤ 2000000) (hp0 : PL a) : ∀ i, i ≤ a.length → (∀ j, j < i → nth a j = nth b j) → ∀ (k : Int) (c : Nat), k = i →
    Ev (fun n => L22_4 (callF prg n) (n + 1) 0 (n + 1 - c) (.sl 4 (a.map ePkg)) (.sl 4 (b.map ePkg)) (iI k) []) (Is (bB (decide (a = b))) []) := by
  refine up_ind ?_
  intro i hi ih hp k c hk
  subst hk
  (refine UL22_4 ?_; unfold LB22_4)
  repeat' (first | ((with_reducible refine eB ?_); first | ((with_reducible refine ev_lss ?_ ?_) <;> intro h <;> try (exfalso; omega)) | ((with_reducible refine ev_add ?_ ?_); · omega) | refine ev_bd rfl ?_ | refine ev_bd0 rfl ?_) | ((with_reducible refine eL ?_); first | ((with_reducible refine ev_lenm ?_ ?_); · rfl) | refine ev_lenom rfl rfl ?_ | refine ev_lenfm rfl rfl ?_ | refine ev_lenoc rfl rfl rfl ?_ | refine ev_lenc rfl rfl ?_ | refine ev_leno rfl rfl ?_ | refine ev_slen rfl ?_ | refine ev_bd rfl ?_ | refine ev_bd0 rfl ?_) | ((with_reducible refine eI ?_); first | ((with_reducible refine ev_idxn ?_ ?_ ?_); (· rfl); · omega) | (refine ev_idxon rfl rfl ?_ ?_; (· first | omega | (simp only [List.length_cons, List.length_nil, List.length_map, List.length_append]; omega))) | (refine ev_idxfn rfl rfl ?_ ?_; (focus omega)) | ((with_reducible refine ev_idx ?_ ?_ ?_); (· rfl); · omega) | (refine ev_idxo rfl rfl ?_ ?_; (· first | omega | (simp only [List.length_cons, List.length_nil, List.length_map, List.length_append]; omega))) | (refine ev_idxf rfl rfl ?_ ?_; (focus omega)) | refine ev_bd rfl ?_ | refine ev_bd0 rfl ?_) | ((with_reducible refine eC ?_); first | ((refine ev_callD (s_eqPkg (nth a i) (nth b i) (hp0 i).1 (hp0 i).2) rfl rfl ?_ rfl rfl ?_ ?_); (focus first | exact .inl rfl | exact .inr rfl | (refine .inr ?_; simp [flagC, ownF, hasSl3, hasSl1, SO.hasSl, List.all_map, flatSV, SV.cells, Function.comp_def]; done)); (all_goals (intro h)); (all_goals (try (exfalso; first | omega | exact h rfl | exact h ⟨rfl, rfl, rfl⟩))))) | ((with_reducible refine eK ?_); first | (with_reducible first | refine ev_ct ?_ | refine ev_cf ?_) | ((with_reducible refine ev_cond ?_ ?_) <;> intro h)) | ((with_reducible refine eO ?_); first | refine ev_bd rfl ?_ | (refine ev_bdB rfl ?_ ?_ <;> intro h <;> try (exfalso; simp_all; done)) | refine ev_bd0 rfl ?_ | (refine ev_ldm rfl ?_ rfl ?_; (focus omega)) | (refine ev_ldmB rfl ?_ rfl ?_ ?_; (focus omega); (all_goals intro h))) | ((with_reducible refine eD ?_); first | refine ev_bd rfl ?_ | refine ev_bd0 rfl ?_) | ((with_reducible refine ih ?_ (all_step hp ?_) _ _ ?_) <;> (first | omega | assumption | (simp only [*, List.map_append, List.length_append, List.length_cons, List.length_nil, List.map_cons, List.map_nil]; done) | (simp_all; done) | (simp_all; omega))) | refine ev_ret rfl ?_)
  · exact ⟨congrArg bB (Eq.symm (decide_eq_false fun e => h (by rw [e]))), rfl⟩
  · exact ⟨congrArg bB (Eq.symm (decide_eq_true (eq_of_nth hl fun j hj => hp j (by omega)))), rfl⟩
theorem s_eqPkgS (a b : List TPkg) (h47 : a.length ≤ 2000000) (hp0 : PL a) : Ex (fun m => callF prg m 22 [.sl 4 (a.map ePkg), .sl 4 (b.map ePkg)] []) (bB (decide (a = b))) [] := by
  refine ev_is.1 ?_
  (refine U22 (nl := 0) rfl ?_; unfold B22)
  repeat' (first | ((with_reducible refine eB ?_); first | ((with_reducible refine ev_neq ?_ ?_) <;> intro h <;> try (exfalso; omega)) | refine ev_bd rfl ?_ | refine ev_bd0 rfl ?_) | ((with_reducible refine eL ?_); first | ((with_reducible refine ev_lenm ?_ ?_); · rfl) | refine ev_lenom rfl rfl ?_ | refine ev_lenfm rfl rfl ?_ | refine ev_lenoc rfl rfl rfl ?_ | refine ev_lenc rfl rfl ?_ | refine ev_leno rfl rfl ?_ | refine ev_slen rfl ?_ | refine ev_bd rfl ?_ | refine ev_bd0 rfl ?_) | ((with_reducible refine eK ?_); first | (with_reducible first | refine ev_ct ?_ | refine ev_cf ?_) | ((with_reducible refine ev_cond ?_ ?_) <;> intro h)) | ((with_reducible refine eD ?_); first | refine ev_bd rfl ?_ | refine ev_bd0 rfl ?_) | ( exact s_eqPkgS_L a b (by omega) h47 hp0 0 (by omega) (fun j hj => by omega) 0 0 rfl) | refine ev_ret rfl ?_)
  all_goals (refine ⟨congrArg bB (Eq.symm (decide_eq_false fun e => ?_)), rfl⟩; subst e; omega)
end Go.Proofs.YtebaiioejagfoaaGreatDoor

/- The exact laws' marks over packages: files and deps. -/
namespace Go.Proofs.YtebaiioejagfoaaGreatDoor
open Go
set_option linter.unusedVariables false
set_option linter.unusedSimpArgs false
set_option maxHeartbeats 4000000
def markF (k : Int) (n : Nat) : List TFile := (List.range n).map fun i : Nat => ⟨k + 2 * (i : Int), k + 2 * (i : Int) + 1⟩
theorem markF_len (k : Int) (n : Nat) : (markF k n).length = n := by simp [markF]
theorem markF_nth {k : Int} {n i : Nat} (h : i < n) : nth (markF k n) i = ⟨k + 2 * (i : Int), k + 2 * (i : Int) + 1⟩ := by
  unfold markF nth
  rw [List.getD_eq_getElem?_getD, List.getElem?_map, List.getElem?_range h]; rfl
theorem s_markFileS_L (k0 : Int) (hk0 : 0 ≤ k0 ∧ k0 ≤ 1152921504606846976) (m : Nat) (hm : m ≤ 2000000) : ∀ i, i ≤ m → ∀ (w : List TFile), w.length = m → (∀ j, j < i → nth w j = ⟨k0 + 2 * (j : Int), k0 + 2 * (j : Int) + 1⟩) → ∀ (q k : Int) (c : Nat), k = i → q = k0 + 2 * i →
    Ev (fun n => L65_2 (callF prg n) (n + 1) 1 (n + 1 - c) (.osl 0) (iI q) (iI k) [.arr true 2 (w.map eFile)]) (Is (iI (k0 + 2 * m)) [.arr true 2 ((markF k0 m).map eFile)]) := by
  refine up_ind ?_
  intro i hi ih w hw hp q k c hk hq
  subst hk
  have hfin : i < m → ∀ x : TFile, x = ⟨k0 + 2 * (i : Int), k0 + 2 * (i : Int) + 1⟩ → ∀ a : TFile, ((w.set i a).set i x).length = m ∧ ∀ j, j < i + 1 → nth ((w.set i a).set i x) j = ⟨k0 + 2 * (j : Int), k0 + 2 * (j : Int) + 1⟩ := fun h x hx a => by
    refine ⟨by rw [List.length_set, List.length_set]; exact hw, fun j hj => ?_⟩
    rw [List.set_set, nth_set']
    split
    · rename_i e; rw [← e.1]; exact hx
    · exact hp j (by omega)
  by_cases hi2 : i < m
  · have e1 : ∀ x, nth (w.set i x) i = x := fun x => by rw [nth_set', if_pos ⟨rfl, by omega⟩]
    have f := hfin hi2 ⟨q, q + 1⟩ (by rw [hq]) ⟨q, (nth w i).data⟩
    (refine UL65_2 ?_; unfold LB65_2)
    repeat' (first | ((with_reducible refine eB ?_); first | ((with_reducible refine ev_lss ?_ ?_) <;> intro h <;> try (exfalso; omega)) | ((with_reducible refine ev_add ?_ ?_); · omega) | refine ev_bd rfl ?_ | refine ev_bd0 rfl ?_) | ((with_reducible refine eL ?_); first | ((with_reducible refine ev_lenm ?_ ?_); · rfl) | refine ev_lenom rfl rfl ?_ | refine ev_lenfm rfl rfl ?_ | refine ev_lenoc rfl rfl rfl ?_ | refine ev_lenc rfl rfl ?_ | refine ev_leno rfl rfl ?_ | refine ev_slen rfl ?_ | refine ev_bd rfl ?_ | refine ev_bd0 rfl ?_) | ((with_reducible refine eI ?_); first | ((with_reducible refine ev_idxn ?_ ?_ ?_); (· rfl); · omega) | (refine ev_idxon rfl rfl ?_ ?_; (· first | omega | (simp only [List.length_cons, List.length_nil, List.length_map, List.length_append]; omega))) | (refine ev_idxfn rfl rfl ?_ ?_; (focus omega)) | ((with_reducible refine ev_idx ?_ ?_ ?_); (· rfl); · omega) | ( (refine ev_idxon rfl rfl ?_ ?_; (focus (simp only [List.length_map, List.length_set]; omega)))) | (refine ev_idxo rfl rfl ?_ ?_; (· first | omega | (simp only [List.length_cons, List.length_nil, List.length_map, List.length_append]; omega))) | (refine ev_idxf rfl rfl ?_ ?_; (focus omega)) | refine ev_bd rfl ?_ | refine ev_bd0 rfl ?_) | ((with_reducible refine eK ?_); first | (with_reducible first | refine ev_ct ?_ | refine ev_cf ?_) | ((with_reducible refine ev_cond ?_ ?_) <;> intro h)) | ((with_reducible refine eD ?_); first | refine ev_bd rfl ?_ | refine ev_bd0 rfl ?_ | ( (refine ev_sto (f := eFile) (a := ⟨q, (nth w i).data⟩) rfl rfl rfl rfl rfl rfl rfl rfl ?_ rfl ?_; (focus omega))) | ( (refine ev_sto (f := eFile) (a := ⟨q, q + 1⟩) rfl rfl rfl rfl rfl rfl rfl (by rw [e1]; rfl) ?_ rfl ?_; (focus (rw [List.length_set]; omega))))) | ((with_reducible refine ih ?_ _ f.1 f.2 _ _ _ ?_ ?_) <;> (first | omega | assumption | (simp only [*, List.map_append, List.length_append, List.length_cons, List.length_nil, List.map_cons, List.map_nil]; done) | (simp_all; done) | (simp_all; omega))) | refine ev_ret rfl ?_)
  · obtain rfl : w = markF k0 m := eq_of_nth (by rw [hw, markF_len]) fun j hj => by rw [markF_nth (by omega)]; exact hp j (by omega)
    (refine UL65_2 ?_; unfold LB65_2)
    repeat' (first | ((with_reducible refine eB ?_); first | ((with_reducible refine ev_lss ?_ ?_) <;> intro h <;> try (exfalso; omega)) | ((with_reducible refine ev_add ?_ ?_); · omega) | refine ev_bd rfl ?_ | refine ev_bd0 rfl ?_) | ((with_reducible refine eL ?_); first | ((with_reducible refine ev_lenm ?_ ?_); · rfl) | refine ev_lenom rfl rfl ?_ | refine ev_lenfm rfl rfl ?_ | refine ev_lenoc rfl rfl rfl ?_ | refine ev_lenc rfl rfl ?_ | refine ev_leno rfl rfl ?_ | refine ev_slen rfl ?_ | refine ev_bd rfl ?_ | refine ev_bd0 rfl ?_) | ((with_reducible refine eI ?_); first | ((with_reducible refine ev_idxn ?_ ?_ ?_); (· rfl); · omega) | (refine ev_idxon rfl rfl ?_ ?_; (· first | omega | (simp only [List.length_cons, List.length_nil, List.length_map, List.length_append]; omega))) | (refine ev_idxfn rfl rfl ?_ ?_; (focus omega)) | ((with_reducible refine ev_idx ?_ ?_ ?_); (· rfl); · omega) | (refine ev_idxo rfl rfl ?_ ?_; (· first | omega | (simp only [List.length_cons, List.length_nil, List.length_map, List.length_append]; omega))) | (refine ev_idxf rfl rfl ?_ ?_; (focus omega)) | refine ev_bd rfl ?_ | refine ev_bd0 rfl ?_) | ((with_reducible refine eK ?_); first | (with_reducible first | refine ev_ct ?_ | refine ev_cf ?_) | ((with_reducible refine ev_cond ?_ ?_) <;> intro h)) | ((with_reducible refine eD ?_); first | refine ev_bd rfl ?_ | refine ev_bd0 rfl ?_) | refine ev_ret rfl ?_)
    all_goals exact ⟨congrArg iI (by omega), rfl⟩
theorem s_markFileS (l : List TFile) (k0 : Int) (hk0 : 0 ≤ k0 ∧ k0 ≤ 1152921504606846976) (hl : l.length ≤ 2000000) : Ex (fun m => callF prg m 65 [.osl 0, iI k0] [.arr true 2 (l.map eFile)]) (iI (k0 + 2 * l.length)) [.arr true 2 ((markF k0 l.length).map eFile)] := by
  refine ev_is.1 ?_
  (refine U65 (nl := 1) rfl ?_; unfold B65)
  exact s_markFileS_L k0 hk0 l.length hl 0 (by omega) l rfl (fun j hj => by omega) _ 0 0 rfl (by simp)
theorem s_markFileS0 (k0 : Int) : Ex (fun m => callF prg m 65 [.sl 2 [], iI k0] []) (iI k0) [] := by
  refine ev_is.1 ?_
  (refine U65 (nl := 0) rfl ?_; unfold B65)
  repeat' (first | ((with_reducible refine eB ?_); first | ((with_reducible refine ev_lss ?_ ?_) <;> intro h <;> try (exfalso; omega)) | ((with_reducible refine ev_add ?_ ?_); · omega) | refine ev_bd rfl ?_ | refine ev_bd0 rfl ?_) | ((with_reducible refine eL ?_); first | ((with_reducible refine ev_lenm ?_ ?_); · rfl) | refine ev_lenom rfl rfl ?_ | refine ev_lenfm rfl rfl ?_ | refine ev_lenoc rfl rfl rfl ?_ | refine ev_lenc rfl rfl ?_ | refine ev_leno rfl rfl ?_ | refine ev_slen rfl ?_ | refine ev_bd rfl ?_ | refine ev_bd0 rfl ?_) | ((with_reducible refine eI ?_); first | ((with_reducible refine ev_idxn ?_ ?_ ?_); (· rfl); · omega) | (refine ev_idxon rfl rfl ?_ ?_; (· first | omega | (simp only [List.length_cons, List.length_nil, List.length_map, List.length_append]; omega))) | (refine ev_idxfn rfl rfl ?_ ?_; (focus omega)) | ((with_reducible refine ev_idx ?_ ?_ ?_); (· rfl); · omega) | (refine ev_idxo rfl rfl ?_ ?_; (· first | omega | (simp only [List.length_cons, List.length_nil, List.length_map, List.length_append]; omega))) | (refine ev_idxf rfl rfl ?_ ?_; (focus omega)) | refine ev_bd rfl ?_ | refine ev_bd0 rfl ?_) | ((with_reducible refine eK ?_); first | (with_reducible first | refine ev_ct ?_ | refine ev_cf ?_) | ((with_reducible refine ev_cond ?_ ?_) <;> intro h)) | ((with_reducible refine eD ?_); first | refine ev_bd rfl ?_ | refine ev_bd0 rfl ?_) | ((with_reducible first | refine UL65_2 ?_ | refine VL65_2 ?_); (unfold LB65_2)) | refine ev_ret rfl ?_)
  all_goals first | exact ⟨rfl, rfl⟩ | (exfalso; omega) | trace_state
def markD (k : Int) (n : Nat) : List TDep := (List.range n).map fun i : Nat => ⟨k + 2 * (i : Int), k + 2 * (i : Int) + 1⟩
theorem markD_len (k : Int) (n : Nat) : (markD k n).length = n := by simp [markD]
theorem markD_nth {k : Int} {n i : Nat} (h : i < n) : nth (markD k n) i = ⟨k + 2 * (i : Int), k + 2 * (i : Int) + 1⟩ := by
  unfold markD nth
  rw [List.getD_eq_getElem?_getD, List.getElem?_map, List.getElem?_range h]; rfl
theorem s_markDepS_L (k0 : Int) (hk0 : 0 ≤ k0 ∧ k0 ≤ 1152921504606846976) (m : Nat) (hm : m ≤ 2000000) : ∀ i, i ≤ m → ∀ (w : List TDep), w.length = m → (∀ j, j < i → nth w j = ⟨k0 + 2 * (j : Int), k0 + 2 * (j : Int) + 1⟩) → ∀ (q k : Int) (c : Nat), k = i → q = k0 + 2 * i →
    Ev (fun n => L66_2 (callF prg n) (n + 1) 1 (n + 1 - c) (.osl 0) (iI q) (iI k) [.arr true 2 (w.map eDep)]) (Is (iI (k0 + 2 * m)) [.arr true 2 ((markD k0 m).map eDep)]) := by
  refine up_ind ?_
  intro i hi ih w hw hp q k c hk hq
  subst hk
  have hfin : i < m → ∀ x : TDep, x = ⟨k0 + 2 * (i : Int), k0 + 2 * (i : Int) + 1⟩ → ∀ a : TDep, ((w.set i a).set i x).length = m ∧ ∀ j, j < i + 1 → nth ((w.set i a).set i x) j = ⟨k0 + 2 * (j : Int), k0 + 2 * (j : Int) + 1⟩ := fun h x hx a => by
    refine ⟨by rw [List.length_set, List.length_set]; exact hw, fun j hj => ?_⟩
    rw [List.set_set, nth_set']
    split
    · rename_i e; rw [← e.1]; exact hx
    · exact hp j (by omega)
  by_cases hi2 : i < m
  · have e1 : ∀ x, nth (w.set i x) i = x := fun x => by rw [nth_set', if_pos ⟨rfl, by omega⟩]
    have f := hfin hi2 ⟨q, q + 1⟩ (by rw [hq]) ⟨q, (nth w i).least⟩
    (refine UL66_2 ?_; unfold LB66_2)
    repeat' (first | ((with_reducible refine eB ?_); first | ((with_reducible refine ev_lss ?_ ?_) <;> intro h <;> try (exfalso; omega)) | ((with_reducible refine ev_add ?_ ?_); · omega) | refine ev_bd rfl ?_ | refine ev_bd0 rfl ?_) | ((with_reducible refine eL ?_); first | ((with_reducible refine ev_lenm ?_ ?_); · rfl) | refine ev_lenom rfl rfl ?_ | refine ev_lenfm rfl rfl ?_ | refine ev_lenoc rfl rfl rfl ?_ | refine ev_lenc rfl rfl ?_ | refine ev_leno rfl rfl ?_ | refine ev_slen rfl ?_ | refine ev_bd rfl ?_ | refine ev_bd0 rfl ?_) | ((with_reducible refine eI ?_); first | ((with_reducible refine ev_idxn ?_ ?_ ?_); (· rfl); · omega) | (refine ev_idxon rfl rfl ?_ ?_; (· first | omega | (simp only [List.length_cons, List.length_nil, List.length_map, List.length_append]; omega))) | (refine ev_idxfn rfl rfl ?_ ?_; (focus omega)) | ((with_reducible refine ev_idx ?_ ?_ ?_); (· rfl); · omega) | ( (refine ev_idxon rfl rfl ?_ ?_; (focus (simp only [List.length_map, List.length_set]; omega)))) | (refine ev_idxo rfl rfl ?_ ?_; (· first | omega | (simp only [List.length_cons, List.length_nil, List.length_map, List.length_append]; omega))) | (refine ev_idxf rfl rfl ?_ ?_; (focus omega)) | refine ev_bd rfl ?_ | refine ev_bd0 rfl ?_) | ((with_reducible refine eK ?_); first | (with_reducible first | refine ev_ct ?_ | refine ev_cf ?_) | ((with_reducible refine ev_cond ?_ ?_) <;> intro h)) | ((with_reducible refine eD ?_); first | refine ev_bd rfl ?_ | refine ev_bd0 rfl ?_ | ( (refine ev_sto (f := eDep) (a := ⟨q, (nth w i).least⟩) rfl rfl rfl rfl rfl rfl rfl rfl ?_ rfl ?_; (focus omega))) | ( (refine ev_sto (f := eDep) (a := ⟨q, q + 1⟩) rfl rfl rfl rfl rfl rfl rfl (by rw [e1]; rfl) ?_ rfl ?_; (focus (rw [List.length_set]; omega))))) | ((with_reducible refine ih ?_ _ f.1 f.2 _ _ _ ?_ ?_) <;> (first | omega | assumption | (simp only [*, List.map_append, List.length_append, List.length_cons, List.length_nil, List.map_cons, List.map_nil]; done) | (simp_all; done) | (simp_all; omega))) | refine ev_ret rfl ?_)
  · obtain rfl : w = markD k0 m := eq_of_nth (by rw [hw, markD_len]) fun j hj => by rw [markD_nth (by omega)]; exact hp j (by omega)
    (refine UL66_2 ?_; unfold LB66_2)
    repeat' (first | ((with_reducible refine eB ?_); first | ((with_reducible refine ev_lss ?_ ?_) <;> intro h <;> try (exfalso; omega)) | ((with_reducible refine ev_add ?_ ?_); · omega) | refine ev_bd rfl ?_ | refine ev_bd0 rfl ?_) | ((with_reducible refine eL ?_); first | ((with_reducible refine ev_lenm ?_ ?_); · rfl) | refine ev_lenom rfl rfl ?_ | refine ev_lenfm rfl rfl ?_ | refine ev_lenoc rfl rfl rfl ?_ | refine ev_lenc rfl rfl ?_ | refine ev_leno rfl rfl ?_ | refine ev_slen rfl ?_ | refine ev_bd rfl ?_ | refine ev_bd0 rfl ?_) | ((with_reducible refine eI ?_); first | ((with_reducible refine ev_idxn ?_ ?_ ?_); (· rfl); · omega) | (refine ev_idxon rfl rfl ?_ ?_; (· first | omega | (simp only [List.length_cons, List.length_nil, List.length_map, List.length_append]; omega))) | (refine ev_idxfn rfl rfl ?_ ?_; (focus omega)) | ((with_reducible refine ev_idx ?_ ?_ ?_); (· rfl); · omega) | (refine ev_idxo rfl rfl ?_ ?_; (· first | omega | (simp only [List.length_cons, List.length_nil, List.length_map, List.length_append]; omega))) | (refine ev_idxf rfl rfl ?_ ?_; (focus omega)) | refine ev_bd rfl ?_ | refine ev_bd0 rfl ?_) | ((with_reducible refine eK ?_); first | (with_reducible first | refine ev_ct ?_ | refine ev_cf ?_) | ((with_reducible refine ev_cond ?_ ?_) <;> intro h)) | ((with_reducible refine eD ?_); first | refine ev_bd rfl ?_ | refine ev_bd0 rfl ?_) | refine ev_ret rfl ?_)
    all_goals exact ⟨congrArg iI (by omega), rfl⟩
theorem s_markDepS (l : List TDep) (k0 : Int) (hk0 : 0 ≤ k0 ∧ k0 ≤ 1152921504606846976) (hl : l.length ≤ 2000000) : Ex (fun m => callF prg m 66 [.osl 0, iI k0] [.arr true 2 (l.map eDep)]) (iI (k0 + 2 * l.length)) [.arr true 2 ((markD k0 l.length).map eDep)] := by
  refine ev_is.1 ?_
  (refine U66 (nl := 1) rfl ?_; unfold B66)
  exact s_markDepS_L k0 hk0 l.length hl 0 (by omega) l rfl (fun j hj => by omega) _ 0 0 rfl (by simp)
theorem s_markDepS0 (k0 : Int) : Ex (fun m => callF prg m 66 [.sl 2 [], iI k0] []) (iI k0) [] := by
  refine ev_is.1 ?_
  (refine U66 (nl := 0) rfl ?_; unfold B66)
  repeat' (first | ((with_reducible refine eB ?_); first | ((with_reducible refine ev_lss ?_ ?_) <;> intro h <;> try (exfalso; omega)) | ((with_reducible refine ev_add ?_ ?_); · omega) | refine ev_bd rfl ?_ | refine ev_bd0 rfl ?_) | ((with_reducible refine eL ?_); first | ((with_reducible refine ev_lenm ?_ ?_); · rfl) | refine ev_lenom rfl rfl ?_ | refine ev_lenfm rfl rfl ?_ | refine ev_lenoc rfl rfl rfl ?_ | refine ev_lenc rfl rfl ?_ | refine ev_leno rfl rfl ?_ | refine ev_slen rfl ?_ | refine ev_bd rfl ?_ | refine ev_bd0 rfl ?_) | ((with_reducible refine eI ?_); first | ((with_reducible refine ev_idxn ?_ ?_ ?_); (· rfl); · omega) | (refine ev_idxon rfl rfl ?_ ?_; (· first | omega | (simp only [List.length_cons, List.length_nil, List.length_map, List.length_append]; omega))) | (refine ev_idxfn rfl rfl ?_ ?_; (focus omega)) | ((with_reducible refine ev_idx ?_ ?_ ?_); (· rfl); · omega) | (refine ev_idxo rfl rfl ?_ ?_; (· first | omega | (simp only [List.length_cons, List.length_nil, List.length_map, List.length_append]; omega))) | (refine ev_idxf rfl rfl ?_ ?_; (focus omega)) | refine ev_bd rfl ?_ | refine ev_bd0 rfl ?_) | ((with_reducible refine eK ?_); first | (with_reducible first | refine ev_ct ?_ | refine ev_cf ?_) | ((with_reducible refine ev_cond ?_ ?_) <;> intro h)) | ((with_reducible refine eD ?_); first | refine ev_bd rfl ?_ | refine ev_bd0 rfl ?_) | ((with_reducible first | refine UL66_2 ?_ | refine VL66_2 ?_); (unfold LB66_2)) | refine ev_ret rfl ?_)
  all_goals first | exact ⟨rfl, rfl⟩ | (exfalso; omega) | trace_state
end Go.Proofs.YtebaiioejagfoaaGreatDoor

/- Packages in memory whose inner slices lie in blocks of their own. -/
namespace Go.Proofs.YtebaiioejagfoaaGreatDoor
open Go
set_option linter.unusedVariables false
set_option linter.unusedSimpArgs false
set_option maxHeartbeats 4000000
def Two (l : List SV) : Prop := ∀ x, x ∈ l → ∃ a b : Int, x = .ag [iI a, iI b]
def twV : SV → Value
  | .ag [.v x, .v y] => .agg #[x, y]
  | _ => undef
def twL (l : List SV) : List Value := l.map twV
theorem two_files (l : List TFile) : Two (l.map eFile) := fun x hx => by
  obtain ⟨f, -, rfl⟩ := List.mem_map.1 hx
  exact ⟨_, _, rfl⟩
theorem two_deps (l : List TDep) : Two (l.map eDep) := fun x hx => by
  obtain ⟨f, -, rfl⟩ := List.mem_map.1 hx
  exact ⟨_, _, rfl⟩
theorem iI_rep {w : World} {B : Nat → Prop} {g : Nat → Gh} {a : Int} {v : Value} (h : RepV w B g (iI a) v) : v = .int .i64 a := by cases h; rfl
theorem tw_rep {w : World} {B : Nat → Prop} {g : Nat → Gh} {a b : Int} {v : Value} (h : RepV w B g (.ag [iI a, iI b]) v) : v = .agg #[.int .i64 a, .int .i64 b] := by
  cases h with
  | ag h1 h2 h3 =>
    rename_i vs
    match vs, h1 with
    | [x, y], _ =>
      obtain rfl := iI_rep (h2 0 _ _ rfl rfl)
      obtain rfl := iI_rep (h2 1 _ _ rfl rfl)
      rfl
theorem tw_rep' (w : World) (B : Nat → Prop) (g : Nat → Gh) (a b : Int) : RepV w B g (.ag [iI a, iI b]) (.agg #[.int .i64 a, .int .i64 b]) := by
  refine .ag (vs := [.int .i64 a, .int .i64 b]) rfl (fun i x v hx hv => ?_) (fun v hv => ?_)
  · match i with
    | 0 => cases hx; cases hv; exact .v rfl
    | 1 => cases hx; cases hv; exact .v rfl
    | i + 2 => cases hx
  · simp at hv; rcases hv with rfl | rfl <;> rfl
theorem twL_len (l : List SV) : (twL l).length = l.length := by simp [twL]
theorem twL_get {l : List SV} {i : Nat} {v : Value} (h : (twL l)[i]? = some v) : ∃ x, l[i]? = some x ∧ v = twV x := by
  unfold twL at h
  rw [List.getElem?_map] at h
  obtain ⟨x, hx, rfl⟩ := Option.map_eq_some_iff.1 h
  exact ⟨x, hx, rfl⟩
theorem twL_ok {l : List SV} (h : Two l) : ∀ v : Value, v ∈ twL l → ElOK 2 v := fun v hv => by
  obtain ⟨x, hx, rfl⟩ := List.mem_map.1 hv
  obtain ⟨a, b, rfl⟩ := h x hx
  refine ⟨rfl, fun c hc => ?_⟩
  simp [twV, Value.cells] at hc
  rcases hc with rfl | rfl <;> rfl
theorem twL_rep {l : List SV} (h : Two l) (w : World) (B : Nat → Prop) (g : Nat → Gh) : RepL w B g l (twL l) := by
  refine ⟨(twL_len l).symm, fun i x v hx hv => ?_⟩
  obtain ⟨y, hy, rfl⟩ := twL_get hv
  rw [hx] at hy; cases hy
  obtain ⟨a, b, rfl⟩ := h x (List.mem_of_getElem? hx)
  exact tw_rep' w B g a b
theorem twL_of {l : List SV} (h : Two l) {w : World} {B : Nat → Prop} {g : Nat → Gh} {vs : List Value} (hr : RepL w B g l vs) : vs = twL l := by
  refine List.ext_getElem? fun i => ?_
  cases hx : l[i]? with
  | none =>
    have h1 := List.getElem?_eq_none_iff.1 hx
    have hl := hr.1
    rw [List.getElem?_eq_none (by omega), List.getElem?_eq_none (by rw [twL_len]; omega)]
  | some x =>
    obtain ⟨v, hv, hr'⟩ := hr.get hx
    obtain ⟨a, b, rfl⟩ := h x (List.mem_of_getElem? hx)
    rw [hv, tw_rep hr']
    unfold twL
    rw [List.getElem?_map, hx]
    rfl
theorem Room.same {w w' : World} {b n sz : Nat} (h : Room w b n sz) (e : w'.heap[b]? = w.heap[b]?) : Room w' b n sz := by
  obtain ⟨cs, t, fz, a, c, d⟩ := h
  exact ⟨cs, t, fz, by rw [e]; exact a, c, d⟩
def In (w : World) (β : Nat) (l : List SV) (s : Value) : Prop :=
  (l = [] ∧ ∃ a c, s = .slice a 0 c) ∨ (l ≠ [] ∧ ∃ cap, s = .slice (some ⟨β, 0, none⟩) l.length cap ∧ l.length ≤ cap ∧ CellsAt w β 0 (flatV (twL l)) ∧ Room w β (cap * 2) 2)
theorem In.heap {w w' : World} {β : Nat} {l : List SV} {s : Value} (h : In w β l s) (e : l ≠ [] → w'.heap[β]? = w.heap[β]?) : In w' β l s := by
  rcases h with h | ⟨h1, cap, h2, h3, h4, h5⟩
  · exact .inl h
  · exact .inr ⟨h1, cap, h2, h3, h4.heap (e h1), h5.same (e h1)⟩
theorem In.one {w : World} {β : Nat} {l : List SV} {s : Value} (h : In w β l s) : s.oneCell' = true := by
  rcases h with ⟨-, a, c, rfl⟩ | ⟨h1, cap, rfl, -⟩ <;> rfl
theorem In.rep {w : World} {β : Nat} {l : List SV} {s : Value} (h2 : Two l) (h : In w β l s) {B : Nat → Prop} (hB : l ≠ [] → B β) (g : Nat → Gh) : RepV w B g (.sl 2 l) s := by
  rcases h with ⟨rfl, a, c, rfl⟩ | ⟨h1, cap, rfl, h3, h4, h5⟩
  · exact .sl0
  · have h := twL_rep h2 w B G0
    exact .sl h.1 h.2 (twL_ok h2) h4 (hB h1) h3
def gBk : Gh → Nat
  | .blk b _ _ _ => b
  | _ => 0
theorem In.of_obj {w : World} {B B' : Nat → Prop} {g : Nat → Gh} {j : Nat} {lt : Bool} {l : List SV} {s : Value} (h2 : Two l) (ho : ObjOK w B g j (.arr lt 2 l)) (hs : RepV w B' g (.osl j) s) : In w (gBk (g j)) l s ∧ (l ≠ [] → (g j).has (gBk (g j))) := by
  rcases ho with ⟨rfl, hn⟩ | ⟨b, cap, vs, h3, h4, h5, h6, h7, h8⟩
  · refine ⟨?_, fun h => absurd rfl h⟩
    cases hs with
    | osl0 => exact .inl ⟨rfl, _, _, rfl⟩
    | osl hg => rw [hn] at hg; cases hg
    | osln hg => rw [hn] at hg; cases hg
  · rw [h3]
    refine ⟨?_, fun _ => rfl⟩
    obtain rfl := twL_of h2 h5
    cases hs with
    | osl0 hg => rw [h3] at hg; cases hg
    | osln hg => rw [h3] at hg; cases hg
    | osl hg =>
      rw [h3] at hg; cases hg
      by_cases hl : l = []
      · subst hl; exact .inl ⟨rfl, _, _, rfl⟩
      · exact .inr ⟨hl, cap, rfl, h4, h7, h8⟩
theorem mem_nil (w : World) (A L : Nat → Prop) : Mem ⟨w.heap.size, A, L, w⟩ [] G0 w where
  objs j o h := by simp at h
  fresh j _ := rfl
  inj i j oi oj b h := by simp at h
  own b hb := by obtain ⟨j, o, h, -⟩ := hb; simp at h
  mine j sz l b h := by simp at h
  frame b _ _ := rfl
  size := Nat.le_refl _
  out := SameOut.refl _
theorem live_nil {g : Nat → Gh} {b : Nat} : ¬ live [] g b := fun ⟨j, o, h, _⟩ => by simp at h
def gOne (x : Gh) : Nat → Gh := fun i => if i = 0 then x else .no
theorem one_get {α : Type} {a b : α} {i : Nat} (h : ([a] : List α)[i]? = some b) : i = 0 ∧ b = a := by
  match i with
  | 0 => exact ⟨rfl, (Option.some.inj h).symm⟩
  | i + 1 => simp at h
theorem mem_arr {w : World} {β : Nat} {l : List SV} {cap : Nat} (h2 : Two l) (hb : β < w.heap.size) (hc : l.length ≤ cap) (hcs : CellsAt w β 0 (flatV (twL l))) (hr : Room w β (cap * 2) 2) (A : Nat → Prop) :
    Mem ⟨w.heap.size, A, fun b => b = β, w⟩ [.arr true 2 l] (gOne (.blk β 2 l.length cap)) w where
  objs j o h := by
    obtain ⟨rfl, rfl⟩ := one_get h
    exact .inr ⟨β, cap, twL l, rfl, hc, twL_rep h2 _ _ _, twL_ok h2, hcs, hr⟩
  fresh j hj := if_neg (by simp at hj; omega)
  inj i j oi oj b hi hj _ _ _ _ := by rw [(one_get hi).1, (one_get hj).1]
  own b hb := by
    obtain ⟨j, o, h, -, hh⟩ := hb
    obtain ⟨rfl, rfl⟩ := one_get h
    obtain rfl : β = b := hh
    exact ⟨hb, fun _ => rfl⟩
  mine j sz l b h _ := by cases (one_get h).2
  frame b _ _ := rfl
  size := Nat.le_refl _
  out := SameOut.refl _
theorem mark_in {f : Nat} {l l' : List SV} {k k1 : Int} (h2 : Two l) (h2' : Two l') (hl : l'.length = l.length) (e1 : Ex (fun m => callF prg m f [.osl 0, iI k] [.arr true 2 l]) (iI k1) [.arr true 2 l']) (e0 : l = [] → Ex (fun m => callF prg m f [.sl 2 [], iI k] []) (iI k1) [])
    {w : World} {β : Nat} {s : Value} (hs : In w β l s) (hb : l ≠ [] → β < w.heap.size) :
    Calls Tryz.prog f #[s, .int .i64 k] w fun e w' => e = .returned (.int .i64 k1) ∧ In w' β l' s ∧ (∀ b, b < w.heap.size → (l ≠ [] → b ≠ β) → w'.heap[b]? = w.heap[b]?) ∧ w.heap.size ≤ w'.heap.size ∧ SameOut w w' := by
  rcases hs with ⟨rfl, a, c, rfl⟩ | ⟨h1, cap, rfl, h3, h4, h5⟩
  · obtain ⟨n0, h0⟩ := e0 rfl
    obtain ⟨-, hk⟩ := callF_ok prgR n0 f _ _ _ _ (h0 n0 (Nat.le_refl _))
    refine (hk (fun _ => True) (fun _ => False) G0 [.slice a 0 c, .int .i64 k] w (fun b hb => (live_nil hb).elim) (mem_nil w _ _) (RepL.cons .sl0 (RepL.cons (.v rfl) RepL.nil))).mono ?_
    rintro e w' ⟨v, g', rfl, m, -, hr, -⟩
    obtain rfl := iI_rep hr
    obtain rfl : l' = [] := List.length_eq_zero_iff.1 hl
    exact ⟨rfl, .inl ⟨rfl, _, _, rfl⟩, fun b hb _ => m.frame b hb id, m.size, m.out⟩
  · obtain ⟨n0, h0⟩ := e1
    obtain ⟨-, hk⟩ := callF_ok prgR n0 f _ _ _ _ (h0 n0 (Nat.le_refl _))
    have hm := mem_arr h2 (hb h1) h3 h4 h5 (fun _ => True)
    refine (hk (fun _ => True) (fun b => b = β) _ [.slice (some ⟨β, 0, none⟩) l.length cap, .int .i64 k] w (fun b hb => (hm.own b hb).2 (hm.own b hb).1) hm (RepL.cons (.osl rfl) (RepL.cons (.v rfl) RepL.nil))).mono ?_
    rintro e w' ⟨v, g', rfl, m, hg, hr, -⟩
    obtain rfl := iI_rep hr
    have hg0 : g' 0 = .blk β 2 l.length cap := hg 0 (by simp) (by intro h; cases h)
    refine ⟨rfl, ?_, fun b hb hne => m.frame b hb (hne h1), m.size, m.out⟩
    have hne' : l' ≠ [] := fun e => h1 (List.length_eq_zero_iff.1 (by rw [← hl, e]; rfl))
    rcases m.objs 0 _ rfl with ⟨hn, -⟩ | ⟨b, cap', vs, q1, q2, q3, q4, q5, q6⟩
    · exact absurd hn hne'
    · rw [hg0] at q1
      injection q1 with q1 _ q7 q8
      subst q1 q8
      obtain rfl := twL_of h2' q3
      exact .inr ⟨hne', cap, by rw [hl], by rw [hl]; exact h3, q5, q6⟩
theorem bk_nil {w : World} {A L : Nat → Prop} {g : Nat → Gh} {b : Nat} (hb : b < w.heap.size) (hA : A b) : Bk ⟨w.heap.size, A, L, w⟩ [] g w b := ⟨hb, fun _ => hA, live_nil⟩
theorem ag4 {w : World} {B : Nat → Prop} {g : Nat → Gh} {a b c d : SV} {v : Value} (h : RepV w B g (.ag [a, b, c, d]) v) : ∃ v0 v1 v2 v3, v = .agg #[v0, v1, v2, v3] ∧ RepV w B g a v0 ∧ RepV w B g b v1 ∧ RepV w B g c v2 ∧ RepV w B g d v3 := by
  cases h with
  | ag h1 h2 h3 =>
    rename_i vs
    match vs, h1 with
    | [v0, v1, v2, v3], _ => exact ⟨v0, v1, v2, v3, rfl, h2 0 _ _ rfl rfl, h2 1 _ _ rfl rfl, h2 2 _ _ rfl rfl, h2 3 _ _ rfl rfl⟩
theorem topk_in {p : TPkg} (h1 : p.files.length ≤ 2000000) (h2 : p.deps.length ≤ 2000000) {w : World} {B : Nat → Prop} {pv : Value} (hp : RepV w B G0 (ePkg p) pv) (hB : ∀ b, B b → b < w.heap.size) :
    Calls Tryz.prog 55 #[pv] w fun e w' => ∃ β1 β2 s1 s2, e = .returned (.agg #[.int .i64 p.name, .int .i64 p.ver, s1, s2]) ∧ In w' β1 (p.files.map eFile) s1 ∧ In w' β2 (p.deps.map eDep) s2 ∧ (p.files ≠ [] → w.heap.size ≤ β1 ∧ β1 < w'.heap.size) ∧ (p.deps ≠ [] → w.heap.size ≤ β2 ∧ β2 < w'.heap.size) ∧
      (p.files ≠ [] → p.deps ≠ [] → β1 ≠ β2) ∧ (∀ b, b < w.heap.size → w'.heap[b]? = w.heap[b]?) ∧ w.heap.size ≤ w'.heap.size ∧ SameOut w w' := by
  obtain ⟨n0, h0⟩ := s_toPkg p h1 h2
  obtain ⟨-, hk⟩ := callF_ok prgR n0 _ _ _ _ _ (h0 n0 (Nat.le_refl _))
  have hp' : RepV w (Bk ⟨w.heap.size, fun _ => True, fun _ => False, w⟩ [] G0 w) G0 (ePkg p) pv := hp.mono (fun b hb => bk_nil (hB b hb) trivial) (fun _ _ => rfl) G0 (fun _ h => h.elim rfl)
  refine (hk (fun _ => True) (fun _ => False) G0 [pv] w (fun b hb => (live_nil hb).elim) (mem_nil w _ _) (RepL.cons hp' RepL.nil)).mono ?_
  rintro e w' ⟨v, g', rfl, m, -, hr, -⟩
  obtain ⟨v0, v1, v2, v3, rfl, r0, r1, r2, r3⟩ := ag4 hr
  obtain rfl := iI_rep r0
  obtain rfl := iI_rep r1
  obtain ⟨i1, j1⟩ := In.of_obj (two_files p.files) (m.objs 0 _ rfl) r2
  obtain ⟨i2, j2⟩ := In.of_obj (two_deps p.deps) (m.objs 1 _ rfl) r3
  have n1 : p.files ≠ [] → p.files.map eFile ≠ [] := fun h e => h (List.map_eq_nil_iff.1 e)
  have n2 : p.deps ≠ [] → p.deps.map eDep ≠ [] := fun h e => h (List.map_eq_nil_iff.1 e)
  refine ⟨_, _, v2, v3, rfl, i1, i2, fun h => ⟨m.mine 0 _ _ _ rfl (j1 (n1 h)), (m.own _ ⟨0, _, rfl, rfl, j1 (n1 h)⟩).1⟩, fun h => ⟨m.mine 1 _ _ _ rfl (j2 (n2 h)), (m.own _ ⟨1, _, rfl, rfl, j2 (n2 h)⟩).1⟩, fun h h' e => ?_, fun b hb => m.frame b hb id, m.size, m.out⟩
  have q := j2 (n2 h')
  rw [← e] at q
  have := m.inj 0 1 _ _ _ rfl rfl rfl rfl (j1 (n1 h)) q
  omega
end Go.Proofs.YtebaiioejagfoaaGreatDoor
