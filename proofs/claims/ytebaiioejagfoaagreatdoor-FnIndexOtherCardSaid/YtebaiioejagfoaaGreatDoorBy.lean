/- The evaluator S and what it says of functions: V20, V43, V46, Tn, To, Bx, By. -/
import Derived.Test.YtebaiioejagfoaaGreatDoorV40
import Derived.Test.YtebaiioejagfoaaGreatDoorV3
import Derived.WalkKit
/- Packages in a store: the program's functions, the newest, the same. -/
namespace Go.Proofs.YtebaiioejagfoaaGreatDoor
open Go
set_option linter.unusedVariables false
set_option linter.unusedSimpArgs false
set_option maxHeartbeats 4000000
theorem s_PkgOkI_L10 (name ver : Int) (F : List TFile) (D : List TDep) (hD : D.length ≤ 2000000) : ∀ i, i ≤ D.length → (∀ j, j < i → depAt name D j) → ∀ (k : Int) (c : Nat), k = i →
    Ev (fun n => G39_10 (callF prg n) (n + 1) 0 (n + 1 - c) [.ptr 0 0, .sl 2 (D.map eDep), iI D.length, iI k] [.box [iI name, iI ver, .sl 2 (F.map eFile), .sl 2 (D.map eDep)]]) (Is (bB (depsAt name D)) []) := by
  refine up_ind ?_
  intro i hi ih hp k c hk
  subst hk
  (refine UG39_10 _ ?_; unfold GB39_10)
  repeat' (first | ((with_reducible refine eG ?_); first | (with_reducible first | refine ev_gtt ?_ | refine ev_gff ?_ | refine ev_gtf ?_ | refine ev_gft ?_ | refine ev_gu ?_) | refine ev_bd rfl ?_ | refine ev_bd0 rfl ?_ | ((with_reducible refine ev_gB ?_ ?_) <;> intro h)) | ((with_reducible refine eB ?_); first | ((with_reducible first | refine ev_lss ?_ ?_ | refine ev_leq ?_ ?_ | refine ev_gtr ?_ ?_ | refine ev_eql ?_ ?_) <;> intro h <;> try (exfalso; omega)) | ((with_reducible first | refine ev_add ?_ ?_ | refine ev_sub ?_ ?_); · omega) | refine ev_bd rfl ?_ | refine ev_bd0 rfl ?_) | ((with_reducible refine eI ?_); first | ((with_reducible refine ev_idxn ?_ ?_ ?_); (· rfl); · omega) | (refine ev_idxon rfl rfl ?_ ?_; (· first | omega | (simp only [List.length_cons, List.length_nil, List.length_map, List.length_append]; omega))) | (refine ev_idxfn rfl rfl ?_ ?_; (focus omega)) | ((with_reducible refine ev_idx ?_ ?_ ?_); (· rfl); · omega) | (refine ev_idxo rfl rfl ?_ ?_; (· first | omega | (simp only [List.length_cons, List.length_nil, List.length_map, List.length_append]; omega))) | (refine ev_idxf rfl rfl ?_ ?_; (focus omega)) | refine ev_bd rfl ?_ | refine ev_bd0 rfl ?_) | ((with_reducible refine eC ?_); first | ((refine ev_callD (s_isName ..) rfl rfl ?_ rfl rfl ?_ ?_); (focus first | exact .inl rfl | exact .inr rfl | (refine .inr ?_; simp [flagC, ownF, hasSl3, hasSl1, SO.hasSl, List.all_map, flatSV, SV.cells, Function.comp_def]; done)); (all_goals (intro h)); (all_goals (try (exfalso; first | omega | exact h rfl | exact h ⟨rfl, rfl, rfl⟩)))) | ((refine ev_callD (s_isVer ..) rfl rfl ?_ rfl rfl ?_ ?_); (focus first | exact .inl rfl | exact .inr rfl | (refine .inr ?_; simp [flagC, ownF, hasSl3, hasSl1, SO.hasSl, List.all_map, flatSV, SV.cells, Function.comp_def]; done)); (all_goals (intro h)); (all_goals (try (exfalso; first | omega | exact h rfl | exact h ⟨rfl, rfl, rfl⟩))))) | ((with_reducible refine eK ?_); first | (with_reducible first | refine ev_ct ?_ | refine ev_cf ?_) | ((with_reducible refine ev_cond ?_ ?_) <;> intro h)) | ((with_reducible refine eO ?_); first | refine ev_bd rfl ?_ | (refine ev_bdB rfl ?_ ?_ <;> intro h <;> try (exfalso; simp_all; done)) | refine ev_bd0 rfl ?_ | (refine ev_ldm rfl ?_ rfl ?_; (focus omega)) | (refine ev_ldmB rfl ?_ rfl ?_ ?_; (focus omega); (all_goals intro h))) | ((with_reducible refine eD ?_); first | refine ev_bd rfl ?_ | refine ev_bd0 rfl ?_ | ((with_reducible refine ev_pickB ?_ ?_) <;> intro h)) | ((with_reducible refine eH ?_); first | refine ev_gcB rfl ?_) | (with_reducible first | refine UL39_10 ?_ | refine VL39_10 ?_) | ((with_reducible refine ih ?_ (all_step hp ?_) _ _ ?_) <;> (first | omega | assumption | ((unfold depAt; (try simp only [Int.toNat_natCast, tn_sub1, tn_add1] at *); omega)) | (simp only [*, List.map_append, List.length_append, List.length_cons, List.length_nil, List.map_cons, List.map_nil]; done) | (simp_all; done) | (simp_all; omega))) | refine ev_ret rfl ?_)
  all_goals first | exact ⟨congrArg bB (Eq.symm (all_true hp (by omega))), rfl⟩ | exact ⟨congrArg bB (Eq.symm (all_false (i := i) (by omega) (by unfold depAt; (try simp only [Int.toNat_natCast, tn_sub1, tn_add1] at *); omega))), rfl⟩ | trace_state
theorem s_PkgOkI_L4 (name ver : Int) (F : List TFile) (D : List TDep) (hF : F.length ≤ 2000000) (hD : D.length ≤ 2000000) : ∀ i, i ≤ F.length → (∀ j, j < i → fileAt F j) → ∀ (k : Int) (c : Nat), k = i →
    Ev (fun n => G39_4 (callF prg n) (n + 1) 0 (n + 1 - c) [.ptr 0 0, .sl 2 (F.map eFile), iI F.length, iI k] [.box [iI name, iI ver, .sl 2 (F.map eFile), .sl 2 (D.map eDep)]]) (Is (bB (filesAt F && depsAt name D)) []) := by
  refine up_ind ?_
  intro i hi ih hp k c hk
  subst hk
  (refine UG39_4 _ ?_; unfold GB39_4)
  repeat' (first | ((with_reducible refine eG ?_); first | (with_reducible first | refine ev_gtt ?_ | refine ev_gff ?_ | refine ev_gtf ?_ | refine ev_gft ?_ | refine ev_gu ?_) | refine ev_bd rfl ?_ | refine ev_bd0 rfl ?_ | ((with_reducible refine ev_gB ?_ ?_) <;> intro h)) | ((with_reducible refine eB ?_); first | ((with_reducible first | refine ev_lss ?_ ?_ | refine ev_leq ?_ ?_ | refine ev_gtr ?_ ?_) <;> intro h <;> try (exfalso; omega)) | ((with_reducible first | refine ev_add ?_ ?_ | refine ev_sub ?_ ?_); · omega) | refine ev_bd rfl ?_ | refine ev_bd0 rfl ?_) | ((with_reducible refine eL ?_); first | ((with_reducible refine ev_lenm ?_ ?_); · rfl) | refine ev_lenom rfl rfl ?_ | refine ev_lenfm rfl rfl ?_ | refine ev_lenoc rfl rfl rfl ?_ | refine ev_lenc rfl rfl ?_ | refine ev_leno rfl rfl ?_ | refine ev_slen rfl ?_ | refine ev_bd rfl ?_ | refine ev_bd0 rfl ?_) | ((with_reducible refine eI ?_); first | ((with_reducible refine ev_idxn ?_ ?_ ?_); (· rfl); · omega) | (refine ev_idxon rfl rfl ?_ ?_; (· first | omega | (simp only [List.length_cons, List.length_nil, List.length_map, List.length_append]; omega))) | (refine ev_idxfn rfl rfl ?_ ?_; (focus omega)) | ((with_reducible refine ev_idx ?_ ?_ ?_); (· rfl); · omega) | (refine ev_idxo rfl rfl ?_ ?_; (· first | omega | (simp only [List.length_cons, List.length_nil, List.length_map, List.length_append]; omega))) | (refine ev_idxf rfl rfl ?_ ?_; (focus omega)) | refine ev_bd rfl ?_ | refine ev_bd0 rfl ?_) | ((with_reducible refine eC ?_); first | ((refine ev_callD (s_in ..) rfl rfl ?_ rfl rfl ?_ ?_); (focus first | exact .inl rfl | exact .inr rfl | (refine .inr ?_; simp [flagC, ownF, hasSl3, hasSl1, SO.hasSl, List.all_map, flatSV, SV.cells, Function.comp_def]; done)); (all_goals (intro h)); (all_goals (try (exfalso; first | omega | exact h rfl | exact h ⟨rfl, rfl, rfl⟩))))) | ((with_reducible refine eK ?_); first | (with_reducible first | refine ev_ct ?_ | refine ev_cf ?_) | ((with_reducible refine ev_cond ?_ ?_) <;> intro h)) | ((with_reducible refine eO ?_); first | refine ev_bd rfl ?_ | (refine ev_bdB rfl ?_ ?_ <;> intro h <;> try (exfalso; simp_all; done)) | refine ev_bd0 rfl ?_ | (refine ev_ldm rfl ?_ rfl ?_; (focus omega)) | (refine ev_ldmB rfl ?_ rfl ?_ ?_; (focus omega); (all_goals intro h))) | ((with_reducible refine eD ?_); first | refine ev_bd rfl ?_ | refine ev_bd0 rfl ?_ | ((with_reducible refine ev_pickB ?_ ?_) <;> intro h)) | ((with_reducible refine eH ?_); first | refine ev_gcB rfl ?_) | (with_reducible first | refine UL39_4 ?_ | refine VL39_4 ?_) | (with_reducible first | refine UL39_10 ?_ | refine VL39_10 ?_) | ((with_reducible refine ih ?_ (all_step hp ?_) _ _ ?_) <;> (first | omega | assumption | ((unfold fileAt; (try simp only [Int.toNat_natCast, tn_sub1, tn_add1] at *); omega)) | (simp only [*, List.map_append, List.length_append, List.length_cons, List.length_nil, List.map_cons, List.map_nil]; done) | (simp_all; done) | (simp_all; omega))) | ( ((rw [show (filesAt F && depsAt name D) = depsAt name D by rw [show filesAt F = true from all_true hp (by omega), Bool.true_and]]); exact s_PkgOkI_L10 name ver F D hD 0 (by omega) (fun j hj => by omega) 0 _ rfl)) | refine ev_ret rfl ?_)
  all_goals first
    | (have hm : filesAt F = false := all_false (i := i) (by omega) (by unfold fileAt; (try simp only [Int.toNat_natCast, tn_sub1, tn_add1] at *); omega)
       exact ⟨congrArg bB (by simp [hm]), rfl⟩)
    | trace_state
theorem s_PkgOkI (name ver : Int) (F : List TFile) (D : List TDep) (hF : F.length ≤ 2000000) (hD : D.length ≤ 2000000) : Ex (fun m => callF prg m 39 [.ag [iI name, iI ver, .sl 2 (F.map eFile), .sl 2 (D.map eDep)]] []) (bB (pkgOk ⟨name, ver, F, D⟩)) [] := by
  refine ev_is.1 ?_
  (refine U39 (nl := 0) rfl ?_; unfold B39)
  repeat' (first | ((with_reducible refine eG ?_); first | (with_reducible first | refine ev_gtt ?_ | refine ev_gff ?_ | refine ev_gtf ?_ | refine ev_gft ?_ | refine ev_gu ?_) | refine ev_bd rfl ?_ | refine ev_bd0 rfl ?_ | ((with_reducible refine ev_gB ?_ ?_) <;> intro h)) | ((with_reducible refine eB ?_); first | ((with_reducible refine ev_gtr ?_ ?_) <;> intro h <;> try (exfalso; omega)) | refine ev_bd rfl ?_ | refine ev_bd0 rfl ?_) | ((with_reducible refine eL ?_); first | ((with_reducible refine ev_lenm ?_ ?_); · rfl) | refine ev_lenom rfl rfl ?_ | refine ev_lenfm rfl rfl ?_ | refine ev_lenoc rfl rfl rfl ?_ | refine ev_lenc rfl rfl ?_ | refine ev_leno rfl rfl ?_ | refine ev_slen rfl ?_ | refine ev_bd rfl ?_ | refine ev_bd0 rfl ?_) | ((with_reducible refine eC ?_); first | ((refine ev_callD (s_isName ..) rfl rfl ?_ rfl rfl ?_ ?_); (focus first | exact .inl rfl | exact .inr rfl | (refine .inr ?_; simp [flagC, ownF, hasSl3, hasSl1, SO.hasSl, List.all_map, flatSV, SV.cells, Function.comp_def]; done)); (all_goals (intro h)); (all_goals (try (exfalso; first | omega | exact h rfl | exact h ⟨rfl, rfl, rfl⟩)))) | ((refine ev_callD (s_isVer ..) rfl rfl ?_ rfl rfl ?_ ?_); (focus first | exact .inl rfl | exact .inr rfl | (refine .inr ?_; simp [flagC, ownF, hasSl3, hasSl1, SO.hasSl, List.all_map, flatSV, SV.cells, Function.comp_def]; done)); (all_goals (intro h)); (all_goals (try (exfalso; first | omega | exact h rfl | exact h ⟨rfl, rfl, rfl⟩))))) | ((with_reducible refine eK ?_); first | (with_reducible first | refine ev_ct ?_ | refine ev_cf ?_) | ((with_reducible refine ev_cond ?_ ?_) <;> intro h)) | ((with_reducible refine eO ?_); first | refine ev_bd rfl ?_ | (refine ev_bdB rfl ?_ ?_ <;> intro h <;> try (exfalso; simp_all; done)) | refine ev_bd0 rfl ?_ | (refine ev_ldm rfl ?_ rfl ?_; (focus omega)) | (refine ev_ldmB rfl ?_ rfl ?_ ?_; (focus omega); (all_goals intro h))) | ((with_reducible refine eD ?_); first | refine ev_bd rfl ?_ | refine ev_bd0 rfl ?_ | ((with_reducible refine ev_pickB ?_ ?_) <;> intro h)) | ((with_reducible refine eH ?_); first | refine ev_gcB rfl ?_) | (with_reducible first | refine UL39_4 ?_ | refine VL39_4 ?_) | ( ((rw [show pkgOk ⟨name, ver, F, D⟩ = (filesAt F && depsAt name D) by (simp only [pkgOk, filesOk, depsOk]; rw [decide_eq_true (by omega : 1 ≤ name ∧ name ≤ 4), decide_eq_true (by omega : 1 ≤ ver ∧ ver ≤ 5), decide_eq_true (by omega : F.length ≤ 2), decide_eq_true (by omega : D.length ≤ 2)]; simp)]); exact s_PkgOkI_L4 name ver F D hF hD 0 (by omega) (fun j hj => by omega) 0 1 rfl)) | refine ev_ret rfl ?_)
  all_goals (refine ⟨congrArg (fun b => SV.v (Value.bool b)) ?_, rfl⟩; first | (simp_all [pkgOk, filesOk, depsOk]; done) | (simp_all [pkgOk, filesOk, depsOk]; omega) | (simp [pkgOk, filesOk, depsOk] at *; omega) | (simp [pkgOk, filesOk, depsOk]; omega) | grind [pkgOk, filesOk, depsOk] | trace_state)
def cmpI (a b : Int) : Int := if a < b then -1 else if b < a then 1 else 0
theorem s_isNaN (a : Int) : Ex (fun m => callF prg m 119 [iI a] []) (bB false) [] := by
  refine ev_is.1 ?_
  (refine U119 (nl := 0) rfl ?_; unfold B119)
  repeat' (first | ((with_reducible refine eB ?_); first | ((with_reducible refine ev_neq ?_ ?_) <;> intro h <;> try (exfalso; omega)) | refine ev_bd rfl ?_ | refine ev_bd0 rfl ?_) | ((with_reducible refine eD ?_); first | refine ev_bd rfl ?_ | refine ev_bd0 rfl ?_) | refine ev_ret rfl ?_)
  all_goals first | exact ⟨rfl, rfl⟩ | (exfalso; omega) | trace_state
theorem s_Compare (a b : Int) : Ex (fun m => callF prg m 104 [iI a, iI b] []) (iI (cmpI a b)) [] := by
  refine ev_is.1 ?_
  (refine U104 (nl := 0) rfl ?_; unfold B104)
  repeat' (first | ((with_reducible refine eB ?_); first | ((with_reducible first | refine ev_lss ?_ ?_ | refine ev_gtr ?_ ?_) <;> intro h <;> try (exfalso; omega)) | refine ev_bd rfl ?_ | refine ev_bd0 rfl ?_) | ((with_reducible refine eC ?_); first | ((refine ev_call (s_isNaN ..) rfl rfl ?_ rfl ?_); (focus first | exact .inl rfl | exact .inr rfl | (refine .inr ?_; simp [flagC, ownF, hasSl3, hasSl1, SO.hasSl, List.all_map, flatSV, SV.cells, Function.comp_def]; done)))) | ((with_reducible refine eK ?_); first | (with_reducible first | refine ev_ct ?_ | refine ev_cf ?_) | ((with_reducible refine ev_cond ?_ ?_) <;> intro h)) | ((with_reducible refine eD ?_); first | refine ev_bd rfl ?_ | refine ev_bd0 rfl ?_) | refine ev_ret rfl ?_)
  all_goals exact ⟨congrArg iI (by unfold cmpI; repeat' split <;> omega), rfl⟩
theorem s_Or2 (a b : Int) : Ex (fun m => callF prg m 103 [.sl 1 [iI a, iI b]] []) (iI (if a ≠ 0 then a else b)) [] := by
  refine ev_is.1 ?_
  (refine U103 (nl := 0) rfl ?_; unfold B103)
  repeat' (first | ((with_reducible refine eB ?_); first | ((with_reducible first | refine ev_lss ?_ ?_ | refine ev_neq ?_ ?_) <;> intro h <;> try (exfalso; omega)) | ((with_reducible refine ev_add ?_ ?_); · omega) | refine ev_bd rfl ?_ | refine ev_bd0 rfl ?_) | ((with_reducible refine eL ?_); first | ((with_reducible refine ev_lenm ?_ ?_); · rfl) | refine ev_lenom rfl rfl ?_ | refine ev_lenfm rfl rfl ?_ | refine ev_lenoc rfl rfl rfl ?_ | refine ev_lenc rfl rfl ?_ | refine ev_leno rfl rfl ?_ | refine ev_slen rfl ?_ | refine ev_bd rfl ?_ | refine ev_bd0 rfl ?_) | ((with_reducible refine eI ?_); first | ((with_reducible refine ev_idxn ?_ ?_ ?_); (· rfl); · omega) | (refine ev_idxon rfl rfl ?_ ?_; (· first | omega | (simp only [List.length_cons, List.length_nil, List.length_map, List.length_append]; omega))) | (refine ev_idxfn rfl rfl ?_ ?_; (focus omega)) | ((with_reducible refine ev_idx ?_ ?_ ?_); (· rfl); · omega) | (refine ev_idxo rfl rfl ?_ ?_; (· first | omega | (simp only [List.length_cons, List.length_nil, List.length_map, List.length_append]; omega))) | (refine ev_idxf rfl rfl ?_ ?_; (focus omega)) | refine ev_bd rfl ?_ | refine ev_bd0 rfl ?_) | ((with_reducible refine eK ?_); first | (with_reducible first | refine ev_ct ?_ | refine ev_cf ?_) | ((with_reducible refine ev_cond ?_ ?_) <;> intro h)) | ((with_reducible refine eO ?_); first | refine ev_bd rfl ?_ | (refine ev_bdB rfl ?_ ?_ <;> intro h <;> try (exfalso; simp_all; done)) | refine ev_bd0 rfl ?_ | (refine ev_ldm rfl ?_ rfl ?_; (focus omega)) | (refine ev_ldmB rfl ?_ rfl ?_ ?_; (focus omega); (all_goals intro h))) | ((with_reducible refine eD ?_); first | refine ev_bd rfl ?_ | refine ev_bd0 rfl ?_) | ((with_reducible first | refine UL103_3 ?_ | refine VL103_3 ?_); (unfold LB103_3)) | refine ev_ret rfl ?_)
  all_goals first | exact ⟨congrArg iI (by split <;> omega), rfl⟩ | trace_state
theorem s_compare (n v : Int) (F : List TFile) (D : List TDep) (n' v' : Int) (F' : List TFile) (D' : List TDep) : ∃ z : Int, ((z < 0 ↔ (n < n' ∨ n = n' ∧ v < v')) ∧ (z = 0 ↔ (n = n' ∧ v = v'))) ∧
    Ex (fun m => callF prg m 74 [.ag [iI n, iI v, .sl 2 (F.map eFile), .sl 2 (D.map eDep)], .ag [iI n', iI v', .sl 2 (F'.map eFile), .sl 2 (D'.map eDep)]] []) (iI z) [] := by
  refine ⟨if cmpI n n' ≠ 0 then cmpI n n' else cmpI v v', ?_, ev_is.1 ?_⟩
  · unfold cmpI
    repeat' split
    all_goals omega
  · (refine U74 (nl := 0) rfl ?_; unfold B74)
    repeat' (first | ((with_reducible refine eC ?_); first | ((refine ev_call (s_Compare ..) rfl rfl ?_ rfl ?_); (focus first | exact .inl rfl | exact .inr rfl | (refine .inr ?_; simp [flagC, ownF, hasSl3, hasSl1, SO.hasSl, List.all_map, flatSV, SV.cells, Function.comp_def]; done))) | ((refine ev_call (s_Or2 ..) rfl rfl ?_ rfl ?_); (focus first | exact .inl rfl | exact .inr rfl | (refine .inr ?_; simp [flagC, ownF, hasSl3, hasSl1, SO.hasSl, List.all_map, flatSV, SV.cells, Function.comp_def]; done)))) | ((with_reducible refine eO ?_); first | refine ev_bd rfl ?_ | (refine ev_bdB rfl ?_ ?_ <;> intro h <;> try (exfalso; simp_all; done)) | refine ev_bd0 rfl ?_ | (refine ev_ldm rfl ?_ rfl ?_; (focus omega)) | (refine ev_ldmB rfl ?_ rfl ?_ ?_; (focus omega); (all_goals intro h)) | (refine ev_ldz rfl rfl rfl ?_ ?_ ?_; (· simp); (· first | omega | (simp only [List.length_cons, List.length_nil, List.length_map, List.length_append]; omega)); intro w)) | ((with_reducible refine eD ?_); first | refine ev_bd rfl ?_ | refine ev_bd0 rfl ?_) | ((with_reducible refine ev_dchk ?_ ?_); · intro _; rfl) | refine ev_ret rfl ?_)
    all_goals exact ⟨rfl, rfl⟩
theorem s_StoreOkI_L (s : List TPkg) (hs : s.length ≤ 2000000) (hp0 : PL s) : ∀ i, i ≤ s.length → (∀ j, j < i → pkgAt s j) → ∀ (k : Int) (c : Nat), k = i →
    Ev (fun n => G34_2 (callF prg n) (n + 1) 0 (n + 1 - c) [.sl 4 (s.map ePkg), .sl 4 (s.map ePkg), iI s.length, iI k] []) (Is (bB (storeOk s)) []) := by
  refine up_ind ?_
  intro i hi ih hp k c hk
  subst hk
  (refine UG34_2 _ ?_; unfold GB34_2)
  repeat' (first | ((with_reducible refine eG ?_); first | (with_reducible first | refine ev_gtt ?_ | refine ev_gff ?_ | refine ev_gtf ?_ | refine ev_gft ?_ | refine ev_gu ?_) | refine ev_bd rfl ?_ | refine ev_bd0 rfl ?_ | ((with_reducible refine ev_gB ?_ ?_) <;> intro h)) | ((with_reducible refine eB ?_); first | ((with_reducible first | refine ev_lss ?_ ?_ | refine ev_gtr ?_ ?_ | refine ev_geq ?_ ?_) <;> intro h <;> try (exfalso; omega)) | ((with_reducible first | refine ev_add ?_ ?_ | refine ev_sub ?_ ?_); · omega) | refine ev_bd rfl ?_ | refine ev_bd0 rfl ?_) | ((with_reducible refine eI ?_); first | ((with_reducible refine ev_idxn ?_ ?_ ?_); (· rfl); · omega) | (refine ev_idxon rfl rfl ?_ ?_; (· first | omega | (simp only [List.length_cons, List.length_nil, List.length_map, List.length_append]; omega))) | (refine ev_idxfn rfl rfl ?_ ?_; (focus omega)) | ((with_reducible refine ev_idx ?_ ?_ ?_); (· rfl); · omega) | (refine ev_idxo rfl rfl ?_ ?_; (· first | omega | (simp only [List.length_cons, List.length_nil, List.length_map, List.length_append]; omega))) | (refine ev_idxf rfl rfl ?_ ?_; (focus omega)) | refine ev_bd rfl ?_ | refine ev_bd0 rfl ?_) | ((with_reducible refine eC ?_); first | ((refine ev_callB (s_PkgOkI _ _ _ _ (hp0 _).1 (hp0 _).2) rfl rfl ?_ rfl rfl ?_ ?_); (focus first | exact .inl rfl | exact .inr rfl | (refine .inr ?_; simp [flagC, ownF, hasSl3, hasSl1, SO.hasSl, List.all_map, flatSV, SV.cells, Function.comp_def]; done)); (all_goals (intro h)); (all_goals (try (exfalso; simp_all; done)))) | ((refine ev_callN (s_compare _ _ _ _ _ _ _ _) rfl rfl ?_ (fun _ => rfl) ?_); (· first | exact .inl rfl | exact .inr (fun _ => rfl)); (first | (have q0 := z3; clear q0; intro z4 hz4) | (have q0 := z2; clear q0; intro z3 hz3) | (have q0 := z; clear q0; intro z2 hz2) | (intro z hz)))) | ((with_reducible refine eK ?_); first | (with_reducible first | refine ev_ct ?_ | refine ev_cf ?_) | ((with_reducible refine ev_cond ?_ ?_) <;> intro h)) | ((with_reducible refine eO ?_); first | refine ev_bd rfl ?_ | (refine ev_bdB rfl ?_ ?_ <;> intro h <;> try (exfalso; simp_all; done)) | refine ev_bd0 rfl ?_ | (refine ev_ldm rfl ?_ rfl ?_; (focus omega)) | (refine ev_ldmB rfl ?_ rfl ?_ ?_; (focus omega); (all_goals intro h))) | ((with_reducible refine eD ?_); first | refine ev_bd rfl ?_ | refine ev_bd0 rfl ?_ | ((with_reducible refine ev_pickB ?_ ?_) <;> intro h)) | ((with_reducible refine eH ?_); first | refine ev_gcB rfl ?_) | (with_reducible first | refine UL34_2 ?_ | refine VL34_2 ?_) | ((with_reducible refine ih ?_ (all_step hp ?_) _ _ ?_) <;> (first | omega | assumption | ((refine ⟨by assumption, fun hi0 => ?_⟩; unfold pless; (try simp only [Int.toNat_natCast, tn_sub1, tn_add1] at *); omega)) | (simp only [*, List.map_append, List.length_append, List.length_cons, List.length_nil, List.map_cons, List.map_nil]; done) | (simp_all; done) | (simp_all; omega))) | refine ev_ret rfl ?_)
  all_goals first
    | exact ⟨congrArg bB (Eq.symm (all_true hp (by omega))), rfl⟩
    | (refine ⟨congrArg bB (Eq.symm (all_false (i := i) (by omega) ?_)), rfl⟩; intro hh; have h1 := hh.2 (by omega); unfold pless at h1; (try simp only [Int.toNat_natCast, tn_sub1, tn_add1] at *); omega)
    | (refine ⟨congrArg bB (Eq.symm (all_false (i := i) (by omega) ?_)), rfl⟩; intro hh; have h1 := hh.1; exact Bool.noConfusion (h1.symm.trans h))
    | trace_state
theorem s_StoreOkI (s : List TPkg) (hs : s.length ≤ 2000000) (hp0 : PL s) : Ex (fun m => callF prg m 34 [.sl 4 (s.map ePkg)] []) (bB (storeOk s)) [] := by
  refine ev_is.1 ?_
  (refine U34 (nl := 0) rfl ?_; unfold B34)
  repeat' (first | ((with_reducible refine eL ?_); first | ((with_reducible refine ev_lenm ?_ ?_); · rfl) | refine ev_lenom rfl rfl ?_ | refine ev_lenfm rfl rfl ?_ | refine ev_lenoc rfl rfl rfl ?_ | refine ev_lenc rfl rfl ?_ | refine ev_leno rfl rfl ?_ | refine ev_slen rfl ?_ | refine ev_bd rfl ?_ | refine ev_bd0 rfl ?_) | ((with_reducible refine eD ?_); first | refine ev_bd rfl ?_ | refine ev_bd0 rfl ?_) | ((with_reducible refine eH ?_); first | refine ev_gcB rfl ?_) | (with_reducible first | refine UL34_2 ?_ | refine VL34_2 ?_) | ( exact s_StoreOkI_L s hs hp0 0 (by omega) (fun j hj => by omega) 0 1 rfl) | refine ev_ret rfl ?_)
def newTo (s : List TPkg) (name : Int) : Nat → Int
  | 0 => -1
  | i + 1 => if (nth s i).name = name then i else newTo s name i
def newIx (s : List TPkg) (name : Int) : Int := newTo s name s.length
def zPkg : TPkg := ⟨0, 0, [], []⟩
def newestP (s : List TPkg) (name : Int) : TPkg × Bool := if 0 ≤ newIx s name then (nth s (newIx s name).toNat, true) else (zPkg, false)
def storeNewest (s : List TPkg) (name : Int) : TPkg × Bool := if storeOk s = true then newestP s name else (zPkg, false)
def QNew (r : TPkg × Bool) : SV → List SO → Prop := fun x os => ∃ p ok, r = (p, ok) ∧ x = .tup [rPkg p 0 1, bB ok] ∧ os = oPkg p
theorem TFile.eq2 {m n : TFile} (h : m.path = n.path ∧ m.data = n.data) : m = n := by cases m; cases n; simp_all
theorem TDep.eq2 {m n : TDep} (h : m.name = n.name ∧ m.least = n.least) : m = n := by cases m; cases n; simp_all
theorem s_luPkg_L9 (a b : TPkg) (hl : a.deps.length = b.deps.length) (h47 : a.deps.length ≤ 2000000) : ∀ i, i ≤ a.deps.length → (∀ j, j < i → nth a.deps j = nth b.deps j) → ∀ (k : Int) (c : Nat), k = i →
    Ev (fun n => L12_9 (callF prg n) (n + 1) 0 (n + 1 - c) (.ptr 0 0) (.ptr 1 0) (iI k) [.box [iI a.name, iI a.ver, .sl 2 (a.files.map eFile), .sl 2 (a.deps.map eDep)], .box [iI b.name, iI b.ver, .sl 2 (b.files.map eFile), .sl 2 (b.deps.map eDep)]]) (Is (bB (decide (a.deps = b.deps))) []) := by
  refine up_ind ?_
  intro i hi ih hp k c hk
  subst hk
  (refine UL12_9 ?_; unfold LB12_9)
  repeat' (first | ((with_reducible refine eB ?_); first | ((with_reducible first | refine ev_lss ?_ ?_ | refine ev_neq ?_ ?_) <;> intro h <;> try (exfalso; omega)) | ((with_reducible refine ev_add ?_ ?_); · omega) | ((with_reducible first | refine ev_eql3 ?_ ?_ ?_ | refine ev_neq3 ?_ ?_ ?_ | refine ev_eql2 ?_ ?_ ?_ | refine ev_neq2 ?_ ?_ ?_); (· rfl); all_goals intro h) | refine ev_bd rfl ?_ | refine ev_bd0 rfl ?_) | ((with_reducible refine eL ?_); first | ((with_reducible refine ev_lenm ?_ ?_); · rfl) | refine ev_lenom rfl rfl ?_ | refine ev_lenfm rfl rfl ?_ | refine ev_lenoc rfl rfl rfl ?_ | refine ev_lenc rfl rfl ?_ | refine ev_leno rfl rfl ?_ | refine ev_slen rfl ?_ | refine ev_bd rfl ?_ | refine ev_bd0 rfl ?_) | ((with_reducible refine eI ?_); first | ((with_reducible refine ev_idxn ?_ ?_ ?_); (· rfl); · omega) | (refine ev_idxon rfl rfl ?_ ?_; (· first | omega | (simp only [List.length_cons, List.length_nil, List.length_map, List.length_append]; omega))) | (refine ev_idxfn rfl rfl ?_ ?_; (focus omega)) | ((with_reducible refine ev_idx ?_ ?_ ?_); (· rfl); · omega) | (refine ev_idxo rfl rfl ?_ ?_; (· first | omega | (simp only [List.length_cons, List.length_nil, List.length_map, List.length_append]; omega))) | (refine ev_idxf rfl rfl ?_ ?_; (focus omega)) | refine ev_bd rfl ?_ | refine ev_bd0 rfl ?_) | ((with_reducible refine eK ?_); first | (with_reducible first | refine ev_ct ?_ | refine ev_cf ?_) | ((with_reducible refine ev_cond ?_ ?_) <;> intro h)) | ((with_reducible refine eO ?_); first | refine ev_bd rfl ?_ | (refine ev_bdB rfl ?_ ?_ <;> intro h <;> try (exfalso; simp_all; done)) | refine ev_bd0 rfl ?_ | (refine ev_ldm rfl ?_ rfl ?_; (focus omega)) | (refine ev_ldmB rfl ?_ rfl ?_ ?_; (focus omega); (all_goals intro h))) | ((with_reducible refine eD ?_); first | refine ev_bd rfl ?_ | refine ev_bd0 rfl ?_) | ((with_reducible refine ih ?_ (all_step hp ?_) _ _ ?_) <;> (first | omega | assumption | ((exact TDep.eq2 (by simpa using h))) | (simp only [*, List.map_append, List.length_append, List.length_cons, List.length_nil, List.map_cons, List.map_nil]; done) | (simp_all; done) | (simp_all; omega))) | refine ev_ret rfl ?_)
  · exact ⟨congrArg bB (Eq.symm (decide_eq_false fun e => h (by rw [e]; exact ⟨rfl, rfl⟩))), rfl⟩
  · exact ⟨congrArg bB (Eq.symm (decide_eq_true (eq_of_nth hl fun j hj => hp j (by omega)))), rfl⟩
theorem s_luPkg_L4 (a b : TPkg) (hF : a.files.length = b.files.length) (hl : a.deps.length = b.deps.length) (h46 : a.files.length ≤ 2000000) (h47 : a.deps.length ≤ 2000000) : ∀ i, i ≤ a.files.length → (∀ j, j < i → nth a.files j = nth b.files j) → ∀ (k : Int) (c : Nat), k = i →
    Ev (fun n => L12_4 (callF prg n) (n + 1) 0 (n + 1 - c) (.ptr 0 0) (.ptr 1 0) (iI k) [.box [iI a.name, iI a.ver, .sl 2 (a.files.map eFile), .sl 2 (a.deps.map eDep)], .box [iI b.name, iI b.ver, .sl 2 (b.files.map eFile), .sl 2 (b.deps.map eDep)]]) (Is (bB (decide (a.files = b.files ∧ a.deps = b.deps))) []) := by
  refine up_ind ?_
  intro i hi ih hp k c hk
  subst hk
  (refine UL12_4 ?_; unfold LB12_4)
  repeat' (first | ((with_reducible refine eB ?_); first | ((with_reducible first | refine ev_lss ?_ ?_ | refine ev_neq ?_ ?_) <;> intro h <;> try (exfalso; omega)) | ((with_reducible refine ev_add ?_ ?_); · omega) | ((with_reducible first | refine ev_eql3 ?_ ?_ ?_ | refine ev_neq3 ?_ ?_ ?_ | refine ev_eql2 ?_ ?_ ?_ | refine ev_neq2 ?_ ?_ ?_); (· rfl); all_goals intro h) | refine ev_bd rfl ?_ | refine ev_bd0 rfl ?_) | ((with_reducible refine eL ?_); first | ((with_reducible refine ev_lenm ?_ ?_); · rfl) | refine ev_lenom rfl rfl ?_ | refine ev_lenfm rfl rfl ?_ | refine ev_lenoc rfl rfl rfl ?_ | refine ev_lenc rfl rfl ?_ | refine ev_leno rfl rfl ?_ | refine ev_slen rfl ?_ | refine ev_bd rfl ?_ | refine ev_bd0 rfl ?_) | ((with_reducible refine eI ?_); first | ((with_reducible refine ev_idxn ?_ ?_ ?_); (· rfl); · omega) | (refine ev_idxon rfl rfl ?_ ?_; (· first | omega | (simp only [List.length_cons, List.length_nil, List.length_map, List.length_append]; omega))) | (refine ev_idxfn rfl rfl ?_ ?_; (focus omega)) | ((with_reducible refine ev_idx ?_ ?_ ?_); (· rfl); · omega) | (refine ev_idxo rfl rfl ?_ ?_; (· first | omega | (simp only [List.length_cons, List.length_nil, List.length_map, List.length_append]; omega))) | (refine ev_idxf rfl rfl ?_ ?_; (focus omega)) | refine ev_bd rfl ?_ | refine ev_bd0 rfl ?_) | ((with_reducible refine eK ?_); first | (with_reducible first | refine ev_ct ?_ | refine ev_cf ?_) | ((with_reducible refine ev_cond ?_ ?_) <;> intro h)) | ((with_reducible refine eO ?_); first | refine ev_bd rfl ?_ | (refine ev_bdB rfl ?_ ?_ <;> intro h <;> try (exfalso; simp_all; done)) | refine ev_bd0 rfl ?_ | (refine ev_ldm rfl ?_ rfl ?_; (focus omega)) | (refine ev_ldmB rfl ?_ rfl ?_ ?_; (focus omega); (all_goals intro h))) | ((with_reducible refine eD ?_); first | refine ev_bd rfl ?_ | refine ev_bd0 rfl ?_) | ((with_reducible refine ih ?_ (all_step hp ?_) _ _ ?_) <;> (first | omega | assumption | ((exact TFile.eq2 (by simpa using h))) | (simp only [*, List.map_append, List.length_append, List.length_cons, List.length_nil, List.map_cons, List.map_nil]; done) | (simp_all; done) | (simp_all; omega))) | ( ((have he : a.files = b.files := eq_of_nth hF fun j hj => hp j (by omega)); (rw [show decide (a.files = b.files ∧ a.deps = b.deps) = decide (a.deps = b.deps) by simp [he]]); exact s_luPkg_L9 a b hl h47 0 (by omega) (fun j hj => by omega) 0 0 rfl)) | refine ev_ret rfl ?_)
  · exact ⟨congrArg bB (Eq.symm (decide_eq_false fun e => h (by rw [e.1]; exact ⟨rfl, rfl⟩))), rfl⟩
theorem s_luPkg (a b : TPkg) (h46 : a.files.length ≤ 2000000) (h47 : a.deps.length ≤ 2000000) : Ex (fun m => callF prg m 12 [ePkg a, ePkg b] []) (bB (decide (a = b))) [] := by
  refine ev_is.1 ?_
  (refine U12 (nl := 0) rfl ?_; unfold B12)
  repeat' (first | ((with_reducible refine eG ?_); first | (with_reducible first | refine ev_gtt ?_ | refine ev_gff ?_ | refine ev_gtf ?_ | refine ev_gft ?_ | refine ev_gu ?_) | refine ev_bd rfl ?_ | refine ev_bd0 rfl ?_ | ((with_reducible refine ev_gB ?_ ?_) <;> intro h)) | ((with_reducible refine eB ?_); first | ((with_reducible refine ev_neq ?_ ?_) <;> intro h <;> try (exfalso; omega)) | refine ev_bd rfl ?_ | refine ev_bd0 rfl ?_) | ((with_reducible refine eL ?_); first | ((with_reducible refine ev_lenm ?_ ?_); · rfl) | refine ev_lenom rfl rfl ?_ | refine ev_lenfm rfl rfl ?_ | refine ev_lenoc rfl rfl rfl ?_ | refine ev_lenc rfl rfl ?_ | refine ev_leno rfl rfl ?_ | refine ev_slen rfl ?_ | refine ev_bd rfl ?_ | refine ev_bd0 rfl ?_) | ((with_reducible refine eK ?_); first | (with_reducible first | refine ev_ct ?_ | refine ev_cf ?_) | ((with_reducible refine ev_cond ?_ ?_) <;> intro h)) | ((with_reducible refine eO ?_); first | refine ev_bd rfl ?_ | (refine ev_bdB rfl ?_ ?_ <;> intro h <;> try (exfalso; simp_all; done)) | refine ev_bd0 rfl ?_ | (refine ev_ldm rfl ?_ rfl ?_; (focus omega)) | (refine ev_ldmB rfl ?_ rfl ?_ ?_; (focus omega); (all_goals intro h))) | ((with_reducible refine eD ?_); first | refine ev_bd rfl ?_ | refine ev_bd0 rfl ?_ | ((with_reducible refine ev_pickB ?_ ?_) <;> intro h)) | ( ((rw [show decide (a = b) = decide (a.files = b.files ∧ a.deps = b.deps) by (cases a; cases b; simp_all)]); exact s_luPkg_L4 a b (by omega) (by omega) h46 h47 0 (by omega) (fun j hj => by omega) 0 0 rfl)) | refine ev_ret rfl ?_)
  all_goals (refine ⟨congrArg bB (Eq.symm (decide_eq_false fun e => ?_)), rfl⟩; subst e; simp_all; done)
end Go.Proofs.YtebaiioejagfoaaGreatDoor

/- The exact laws' own functions, over packages. -/
namespace Go.Proofs.YtebaiioejagfoaaGreatDoor
open Go
set_option linter.unusedVariables false
set_option linter.unusedSimpArgs false
set_option maxHeartbeats 4000000
def lowPkg (p : TPkg) : Prop := p.files.length ≤ 1048576 ∧ p.deps.length ≤ 1048576
def lowPkgs (s : List TPkg) : Prop := s.length ≤ 1048576 ∧ ∀ i, i < s.length → lowPkg (nth s i)
theorem lowPkgs.pl {s : List TPkg} (h : lowPkgs s) : PL s := fun i => by
  by_cases hi : i < s.length
  · have := h.2 i hi; unfold lowPkg at this; omega
  · have : nth s i = default := by
      unfold nth
      rw [List.getD_eq_getElem?_getD, List.getElem?_eq_none (by omega)]; rfl
    rw [this]
    exact ⟨by show ([] : List TFile).length ≤ _; simp, by show ([] : List TDep).length ≤ _; simp⟩
theorem lowPkgs.len {s : List TPkg} (h : lowPkgs s) : s.length ≤ 2000000 := Nat.le_trans h.1 (by decide)
def QSz (s : List TPkg) (k : Int) : SV → List SO → Prop := fun y os => ∃ z : Int, y = iI z ∧ os = [] ∧ (z ≤ k ∧ -1 ≤ z ∧ (0 ≤ z → lowPkgs s))
theorem s_toFile (a b : Int) : Ex (fun m => callF prg m 113 [.ag [iI a, iI b]] []) (.ag [iI a, iI b]) [] := by
  refine ev_is.1 ?_
  (refine U113 (nl := 0) rfl ?_; unfold B113)
  repeat' (first | ((with_reducible refine eO ?_); first | refine ev_bd rfl ?_ | (refine ev_bdB rfl ?_ ?_ <;> intro h <;> try (exfalso; simp_all; done)) | refine ev_bd0 rfl ?_ | (refine ev_ldm rfl ?_ rfl ?_; (focus omega)) | (refine ev_ldmB rfl ?_ rfl ?_ ?_; (focus omega); (all_goals intro h))) | ((with_reducible refine eD ?_); first | refine ev_bd rfl ?_ | refine ev_bd0 rfl ?_) | refine ev_ret rfl ?_)
  all_goals exact ⟨rfl, rfl⟩
theorem s_toDep (a b : Int) : Ex (fun m => callF prg m 114 [.ag [iI a, iI b]] []) (.ag [iI a, iI b]) [] := by
  refine ev_is.1 ?_
  (refine U114 (nl := 0) rfl ?_; unfold B114)
  repeat' (first | ((with_reducible refine eO ?_); first | refine ev_bd rfl ?_ | (refine ev_bdB rfl ?_ ?_ <;> intro h <;> try (exfalso; simp_all; done)) | refine ev_bd0 rfl ?_ | (refine ev_ldm rfl ?_ rfl ?_; (focus omega)) | (refine ev_ldmB rfl ?_ rfl ?_ ?_; (focus omega); (all_goals intro h))) | ((with_reducible refine eD ?_); first | refine ev_bd rfl ?_ | refine ev_bd0 rfl ?_) | refine ev_ret rfl ?_)
  all_goals exact ⟨rfl, rfl⟩
theorem s_toFileS_L (l : List TFile) (hl : l.length ≤ 2000000) : ∀ i, i ≤ l.length → ∀ (w : List TFile), w.length = l.length → (∀ j, j < i → nth w j = nth l j) → ∀ (k : Int) (c : Nat), k = i →
    Ev (fun n => L90_3 (callF prg n) (n + 1) 0 (n + 1 - c) (.sl 2 (l.map eFile)) (.osl 1) (iI k) [.arr false 2 [], .arr false 2 (w.map eFile)]) (Is (.osl 0) [.arr false 2 (l.map eFile)]) := by
  refine up_ind ?_
  intro i hi ih w hw hp k c hk
  subst hk
  (refine UL90_3 ?_; unfold LB90_3)
  repeat' (first | ((with_reducible refine eB ?_); first | ((with_reducible refine ev_lss ?_ ?_) <;> intro h <;> try (exfalso; omega)) | ((with_reducible refine ev_add ?_ ?_); · omega) | refine ev_bd rfl ?_ | refine ev_bd0 rfl ?_) | ((with_reducible refine eL ?_); first | ((with_reducible refine ev_lenm ?_ ?_); · rfl) | refine ev_lenom rfl rfl ?_ | refine ev_lenfm rfl rfl ?_ | refine ev_lenoc rfl rfl rfl ?_ | refine ev_lenc rfl rfl ?_ | refine ev_leno rfl rfl ?_ | refine ev_slen rfl ?_ | refine ev_bd rfl ?_ | refine ev_bd0 rfl ?_) | ((with_reducible refine eI ?_); first | ((with_reducible refine ev_idxn ?_ ?_ ?_); (· rfl); · omega) | (refine ev_idxon rfl rfl ?_ ?_; (· first | omega | (simp only [List.length_cons, List.length_nil, List.length_map, List.length_append]; omega))) | (refine ev_idxfn rfl rfl ?_ ?_; (focus omega)) | ((with_reducible refine ev_idx ?_ ?_ ?_); (· rfl); · omega) | (refine ev_idxo rfl rfl ?_ ?_; (· first | omega | (simp only [List.length_cons, List.length_nil, List.length_map, List.length_append]; omega))) | (refine ev_idxf rfl rfl ?_ ?_; (focus omega)) | refine ev_bd rfl ?_ | refine ev_bd0 rfl ?_) | ((with_reducible refine eC ?_); first | ((refine ev_call (s_toFile ..) rfl rfl ?_ rfl ?_); (focus first | exact .inl rfl | exact .inr rfl | (refine .inr ?_; simp [flagC, ownF, hasSl3, hasSl1, SO.hasSl, List.all_map, flatSV, SV.cells, Function.comp_def]; done)))) | ((with_reducible refine eK ?_); first | (with_reducible first | refine ev_ct ?_ | refine ev_cf ?_) | ((with_reducible refine ev_cond ?_ ?_) <;> intro h)) | ((with_reducible refine eO ?_); first | refine ev_bd rfl ?_ | (refine ev_bdB rfl ?_ ?_ <;> intro h <;> try (exfalso; simp_all; done)) | refine ev_bd0 rfl ?_ | (refine ev_ldm rfl ?_ rfl ?_; (focus omega)) | (refine ev_ldmB rfl ?_ rfl ?_ ?_; (focus omega); (all_goals intro h))) | ((with_reducible refine eD ?_); first | refine ev_bd rfl ?_ | refine ev_bd0 rfl ?_ | ( (refine ev_sto (f := eFile) (a := nth l i) rfl rfl rfl rfl rfl rfl rfl rfl ?_ rfl ?_; (focus omega)))) | ((with_reducible refine ih ?_ _ ?_ ?_ _ _ ?_) <;> (first | omega | assumption | ((first | (rw [List.length_set]; exact hw) | (intro j hj; rw [nth_set']; split; (rename_i e; rw [e.1]); (rename_i e; exact hp j (by omega))))) | (simp only [*, List.map_append, List.length_append, List.length_cons, List.length_nil, List.map_cons, List.map_nil]; done) | (simp_all; done) | (simp_all; omega))) | refine ev_ret rfl ?_)
  all_goals (obtain rfl : w = l := eq_of_nth hw fun j hj => hp j (by omega))
  all_goals exact ⟨rfl, rfl⟩
theorem s_toFileS (l : List TFile) (hl : l.length ≤ 2000000) : Ex (fun m => callF prg m 90 [.sl 2 (l.map eFile)] []) (.osl 0) [.arr false 2 (l.map eFile)] := by
  refine ev_is.1 ?_
  (refine U90 (nl := 0) rfl ?_; unfold B90)
  repeat' (first | ((with_reducible refine eL ?_); first | ((with_reducible refine ev_lenm ?_ ?_); · rfl) | refine ev_lenom rfl rfl ?_ | refine ev_lenfm rfl rfl ?_ | refine ev_lenoc rfl rfl rfl ?_ | refine ev_lenc rfl rfl ?_ | refine ev_leno rfl rfl ?_ | refine ev_slen rfl ?_ | refine ev_bd rfl ?_ | refine ev_bd0 rfl ?_) | ((with_reducible refine eD ?_); first | refine ev_bd rfl ?_ | refine ev_bd0 rfl ?_ | ( (refine ev_mk (f := eFile) (z := ⟨0, 0⟩) rfl rfl rfl ?_ ?_; (focus (dsimp only; omega))))) | ( exact s_toFileS_L l hl 0 (by omega) _ (by simp) (fun j hj => by omega) 0 0 rfl) | refine ev_ret rfl ?_)
theorem s_toDepS_L (l : List TDep) (hl : l.length ≤ 2000000) : ∀ i, i ≤ l.length → ∀ (w : List TDep), w.length = l.length → (∀ j, j < i → nth w j = nth l j) → ∀ (k : Int) (c : Nat), k = i →
    Ev (fun n => L91_3 (callF prg n) (n + 1) 0 (n + 1 - c) (.sl 2 (l.map eDep)) (.osl 1) (iI k) [.arr false 2 [], .arr false 2 (w.map eDep)]) (Is (.osl 0) [.arr false 2 (l.map eDep)]) := by
  refine up_ind ?_
  intro i hi ih w hw hp k c hk
  subst hk
  (refine UL91_3 ?_; unfold LB91_3)
  repeat' (first | ((with_reducible refine eB ?_); first | ((with_reducible refine ev_lss ?_ ?_) <;> intro h <;> try (exfalso; omega)) | ((with_reducible refine ev_add ?_ ?_); · omega) | refine ev_bd rfl ?_ | refine ev_bd0 rfl ?_) | ((with_reducible refine eL ?_); first | ((with_reducible refine ev_lenm ?_ ?_); · rfl) | refine ev_lenom rfl rfl ?_ | refine ev_lenfm rfl rfl ?_ | refine ev_lenoc rfl rfl rfl ?_ | refine ev_lenc rfl rfl ?_ | refine ev_leno rfl rfl ?_ | refine ev_slen rfl ?_ | refine ev_bd rfl ?_ | refine ev_bd0 rfl ?_) | ((with_reducible refine eI ?_); first | ((with_reducible refine ev_idxn ?_ ?_ ?_); (· rfl); · omega) | (refine ev_idxon rfl rfl ?_ ?_; (· first | omega | (simp only [List.length_cons, List.length_nil, List.length_map, List.length_append]; omega))) | (refine ev_idxfn rfl rfl ?_ ?_; (focus omega)) | ((with_reducible refine ev_idx ?_ ?_ ?_); (· rfl); · omega) | (refine ev_idxo rfl rfl ?_ ?_; (· first | omega | (simp only [List.length_cons, List.length_nil, List.length_map, List.length_append]; omega))) | (refine ev_idxf rfl rfl ?_ ?_; (focus omega)) | refine ev_bd rfl ?_ | refine ev_bd0 rfl ?_) | ((with_reducible refine eC ?_); first | ((refine ev_call (s_toDep ..) rfl rfl ?_ rfl ?_); (focus first | exact .inl rfl | exact .inr rfl | (refine .inr ?_; simp [flagC, ownF, hasSl3, hasSl1, SO.hasSl, List.all_map, flatSV, SV.cells, Function.comp_def]; done)))) | ((with_reducible refine eK ?_); first | (with_reducible first | refine ev_ct ?_ | refine ev_cf ?_) | ((with_reducible refine ev_cond ?_ ?_) <;> intro h)) | ((with_reducible refine eO ?_); first | refine ev_bd rfl ?_ | (refine ev_bdB rfl ?_ ?_ <;> intro h <;> try (exfalso; simp_all; done)) | refine ev_bd0 rfl ?_ | (refine ev_ldm rfl ?_ rfl ?_; (focus omega)) | (refine ev_ldmB rfl ?_ rfl ?_ ?_; (focus omega); (all_goals intro h))) | ((with_reducible refine eD ?_); first | refine ev_bd rfl ?_ | refine ev_bd0 rfl ?_ | ( (refine ev_sto (f := eDep) (a := nth l i) rfl rfl rfl rfl rfl rfl rfl rfl ?_ rfl ?_; (focus omega)))) | ((with_reducible refine ih ?_ _ ?_ ?_ _ _ ?_) <;> (first | omega | assumption | ((first | (rw [List.length_set]; exact hw) | (intro j hj; rw [nth_set']; split; (rename_i e; rw [e.1]); (rename_i e; exact hp j (by omega))))) | (simp only [*, List.map_append, List.length_append, List.length_cons, List.length_nil, List.map_cons, List.map_nil]; done) | (simp_all; done) | (simp_all; omega))) | refine ev_ret rfl ?_)
  all_goals (obtain rfl : w = l := eq_of_nth hw fun j hj => hp j (by omega))
  all_goals exact ⟨rfl, rfl⟩
theorem s_toDepS (l : List TDep) (hl : l.length ≤ 2000000) : Ex (fun m => callF prg m 91 [.sl 2 (l.map eDep)] []) (.osl 0) [.arr false 2 (l.map eDep)] := by
  refine ev_is.1 ?_
  (refine U91 (nl := 0) rfl ?_; unfold B91)
  repeat' (first | ((with_reducible refine eL ?_); first | ((with_reducible refine ev_lenm ?_ ?_); · rfl) | refine ev_lenom rfl rfl ?_ | refine ev_lenfm rfl rfl ?_ | refine ev_lenoc rfl rfl rfl ?_ | refine ev_lenc rfl rfl ?_ | refine ev_leno rfl rfl ?_ | refine ev_slen rfl ?_ | refine ev_bd rfl ?_ | refine ev_bd0 rfl ?_) | ((with_reducible refine eD ?_); first | refine ev_bd rfl ?_ | refine ev_bd0 rfl ?_ | ( (refine ev_mk (f := eDep) (z := ⟨0, 0⟩) rfl rfl rfl ?_ ?_; (focus (dsimp only; omega))))) | ( exact s_toDepS_L l hl 0 (by omega) _ (by simp) (fun j hj => by omega) 0 0 rfl) | refine ev_ret rfl ?_)
theorem s_toPkg (p : TPkg) (h1 : p.files.length ≤ 2000000) (h2 : p.deps.length ≤ 2000000) : Ex (fun m => callF prg m 55 [ePkg p] []) (rPkg p 0 1) (oPkg p) := by
  refine ev_is.1 ?_
  (refine U55 (nl := 0) rfl ?_; unfold B55)
  repeat' (first | ((with_reducible refine eC ?_); first | ((refine ev_call (s_toFileS p.files h1) rfl rfl ?_ rfl ?_); (focus first | exact .inl rfl | exact .inr rfl | (refine .inr ?_; simp [flagC, ownF, hasSl3, hasSl1, SO.hasSl, List.all_map, flatSV, SV.cells, Function.comp_def]; done))) | ((refine ev_call (s_toDepS p.deps h2) rfl rfl ?_ rfl ?_); (focus first | exact .inl rfl | exact .inr rfl | (refine .inr ?_; simp [flagC, ownF, hasSl3, hasSl1, SO.hasSl, List.all_map, flatSV, SV.cells, Function.comp_def]; done)))) | ((with_reducible refine eO ?_); first | refine ev_bd rfl ?_ | (refine ev_bdB rfl ?_ ?_ <;> intro h <;> try (exfalso; simp_all; done)) | refine ev_bd0 rfl ?_ | (refine ev_ldm rfl ?_ rfl ?_; (focus omega)) | (refine ev_ldmB rfl ?_ rfl ?_ ?_; (focus omega); (all_goals intro h))) | ((with_reducible refine eD ?_); first | refine ev_bd rfl ?_ | refine ev_bd0 rfl ?_) | refine ev_ret rfl ?_)
  all_goals exact ⟨rfl, rfl⟩
theorem s_toPkgS_L (l : List TPkg) (hl : lowPkgs l) : ∀ i, i ≤ l.length → ∀ (w : List TPkg), w.length = l.length → (∀ j, j < i → nth w j = nth l j) → ∀ (k : Int) (c : Nat), k = i →
    Ev (fun n => G18_3 (callF prg n) (n + 1) 0 (n + 1 - c) [.sl 4 (l.map ePkg), .osl 0, iI k] [.arr false 4 (w.map ePkg)]) (Is (.osl 0) [.arr false 4 (l.map ePkg)]) := by
  have hp0 := hl.pl
  have hll := hl.len
  refine up_ind ?_
  intro i hi ih w hw hp k c hk
  subst hk
  (refine UG18_3 _ ?_; unfold GB18_3)
  repeat' (first | ((with_reducible refine eB ?_); first | ((with_reducible refine ev_lss ?_ ?_) <;> intro h <;> try (exfalso; omega)) | ((with_reducible refine ev_add ?_ ?_); · omega) | refine ev_bd rfl ?_ | refine ev_bd0 rfl ?_) | ((with_reducible refine eL ?_); first | ((with_reducible refine ev_lenm ?_ ?_); · rfl) | refine ev_lenom rfl rfl ?_ | refine ev_lenfm rfl rfl ?_ | refine ev_lenoc rfl rfl rfl ?_ | refine ev_lenc rfl rfl ?_ | refine ev_leno rfl rfl ?_ | refine ev_slen rfl ?_ | refine ev_bd rfl ?_ | refine ev_bd0 rfl ?_) | ((with_reducible refine eI ?_); first | ((with_reducible refine ev_idxn ?_ ?_ ?_); (· rfl); · omega) | (refine ev_idxon rfl rfl ?_ ?_; (· first | omega | (simp only [List.length_cons, List.length_nil, List.length_map, List.length_append]; omega))) | (refine ev_idxfn rfl rfl ?_ ?_; (focus omega)) | ((with_reducible refine ev_idx ?_ ?_ ?_); (· rfl); · omega) | (refine ev_idxo rfl rfl ?_ ?_; (· first | omega | (simp only [List.length_cons, List.length_nil, List.length_map, List.length_append]; omega))) | (refine ev_idxf rfl rfl ?_ ?_; (focus omega)) | refine ev_bd rfl ?_ | refine ev_bd0 rfl ?_) | ((with_reducible refine eC ?_); first | ((refine ev_call (s_toPkg (nth l i) (hp0 i).1 (hp0 i).2) rfl rfl ?_ rfl ?_); (focus first | exact .inl rfl | exact .inr rfl | (refine .inr ?_; simp [flagC, ownF, hasSl3, hasSl1, SO.hasSl, List.all_map, flatSV, SV.cells, Function.comp_def]; done)))) | ((with_reducible refine eK ?_); first | (with_reducible first | refine ev_ct ?_ | refine ev_cf ?_) | ((with_reducible refine ev_cond ?_ ?_) <;> intro h)) | ((with_reducible refine eO ?_); first | refine ev_bd rfl ?_ | (refine ev_bdB rfl ?_ ?_ <;> intro h <;> try (exfalso; simp_all; done)) | refine ev_bd0 rfl ?_ | (refine ev_ldm rfl ?_ rfl ?_; (focus omega)) | (refine ev_ldmB rfl ?_ rfl ?_ ?_; (focus omega); (all_goals intro h))) | ((with_reducible refine eD ?_); first | refine ev_bd rfl ?_ | refine ev_bd0 rfl ?_ | ( (refine ev_sto (f := ePkg) (a := nth l i) rfl rfl rfl rfl rfl rfl rfl rfl ?_ rfl ?_; (focus omega)))) | ((with_reducible refine eH ?_); first | refine ev_gcB rfl ?_) | (with_reducible first | refine UL18_3 ?_ | refine VL18_3 ?_) | ((with_reducible refine ih ?_ _ ?_ ?_ _ _ ?_) <;> (first | omega | assumption | ((first | (rw [List.length_set]; exact hw) | (intro j hj; rw [nth_set']; split; (rename_i e; rw [e.1]); (rename_i e; exact hp j (by omega))))) | (simp only [*, List.map_append, List.length_append, List.length_cons, List.length_nil, List.map_cons, List.map_nil]; done) | (simp_all; done) | (simp_all; omega))) | refine ev_ret rfl ?_)
  all_goals (obtain rfl : w = l := eq_of_nth hw fun j hj => hp j (by omega))
  all_goals exact ⟨rfl, rfl⟩
theorem s_toPkgS (l : List TPkg) (hl : lowPkgs l) : Ex (fun m => callF prg m 18 [.sl 4 (l.map ePkg)] []) (.osl 0) [.arr false 4 (l.map ePkg)] := by
  have hll := hl.1
  refine ev_is.1 ?_
  (refine U18 (nl := 0) rfl ?_; unfold B18)
  repeat' (first | ((with_reducible refine eL ?_); first | ((with_reducible refine ev_lenm ?_ ?_); · rfl) | refine ev_lenom rfl rfl ?_ | refine ev_lenfm rfl rfl ?_ | refine ev_lenoc rfl rfl rfl ?_ | refine ev_lenc rfl rfl ?_ | refine ev_leno rfl rfl ?_ | refine ev_slen rfl ?_ | refine ev_bd rfl ?_ | refine ev_bd0 rfl ?_) | ((with_reducible refine eD ?_); first | refine ev_bd rfl ?_ | refine ev_bd0 rfl ?_ | ( (refine ev_mk (f := ePkg) (z := zPkg) rfl rfl rfl ?_ ?_; (focus (dsimp only; omega))))) | ((with_reducible refine eH ?_); first | refine ev_gcB rfl ?_) | (with_reducible first | refine UL18_3 ?_ | refine VL18_3 ?_) | ( exact s_toPkgS_L l hl 0 (by omega) _ (by simp) (fun j hj => by omega) 0 _ rfl) | refine ev_ret rfl ?_)
end Go.Proofs.YtebaiioejagfoaaGreatDoor

/- The exact laws' marks over packages: files and deps. -/
namespace Go.Proofs.YtebaiioejagfoaaGreatDoor
open Go
set_option linter.unusedVariables false
set_option linter.unusedSimpArgs false
set_option maxHeartbeats 4000000
def markF (k : Int) (n : Nat) : List TFile := (List.range n).map fun i : Nat => ⟨k + 2 * (i : Int), k + 2 * (i : Int) + 1⟩
theorem markF_len (k : Int) (n : Nat) : (markF k n).length = n := by simp [markF]
theorem markF_nth {k : Int} {n i : Nat} (h : i < n) : nth (markF k n) i = ⟨k + 2 * (i : Int), k + 2 * (i : Int) + 1⟩ := by
  unfold markF nth
  rw [List.getD_eq_getElem?_getD, List.getElem?_map, List.getElem?_range h]; rfl
theorem s_markFileS_L (k0 : Int) (hk0 : 0 ≤ k0 ∧ k0 ≤ 1152921504606846976) (m : Nat) (hm : m ≤ 2000000) : ∀ i, i ≤ m → ∀ (w : List TFile), w.length = m → (∀ j, j < i → nth w j = ⟨k0 + 2 * (j : Int), k0 + 2 * (j : Int) + 1⟩) → ∀ (q k : Int) (c : Nat), k = i → q = k0 + 2 * i →
    Ev (fun n => L65_2 (callF prg n) (n + 1) 1 (n + 1 - c) (.osl 0) (iI q) (iI k) [.arr true 2 (w.map eFile)]) (Is (iI (k0 + 2 * m)) [.arr true 2 ((markF k0 m).map eFile)]) := by
  refine up_ind ?_
  intro i hi ih w hw hp q k c hk hq
  subst hk
  have hfin : i < m → ∀ x : TFile, x = ⟨k0 + 2 * (i : Int), k0 + 2 * (i : Int) + 1⟩ → ∀ a : TFile, ((w.set i a).set i x).length = m ∧ ∀ j, j < i + 1 → nth ((w.set i a).set i x) j = ⟨k0 + 2 * (j : Int), k0 + 2 * (j : Int) + 1⟩ := fun h x hx a => by
    refine ⟨by rw [List.length_set, List.length_set]; exact hw, fun j hj => ?_⟩
    rw [List.set_set, nth_set']
    split
    · rename_i e; rw [← e.1]; exact hx
    · exact hp j (by omega)
  by_cases hi2 : i < m
  · have e1 : ∀ x, nth (w.set i x) i = x := fun x => by rw [nth_set', if_pos ⟨rfl, by omega⟩]
    have f := hfin hi2 ⟨q, q + 1⟩ (by rw [hq]) ⟨q, (nth w i).data⟩
    (refine UL65_2 ?_; unfold LB65_2)
    repeat' (first | ((with_reducible refine eB ?_); first | ((with_reducible refine ev_lss ?_ ?_) <;> intro h <;> try (exfalso; omega)) | ((with_reducible refine ev_add ?_ ?_); · omega) | refine ev_bd rfl ?_ | refine ev_bd0 rfl ?_) | ((with_reducible refine eL ?_); first | ((with_reducible refine ev_lenm ?_ ?_); · rfl) | refine ev_lenom rfl rfl ?_ | refine ev_lenfm rfl rfl ?_ | refine ev_lenoc rfl rfl rfl ?_ | refine ev_lenc rfl rfl ?_ | refine ev_leno rfl rfl ?_ | refine ev_slen rfl ?_ | refine ev_bd rfl ?_ | refine ev_bd0 rfl ?_) | ((with_reducible refine eI ?_); first | ((with_reducible refine ev_idxn ?_ ?_ ?_); (· rfl); · omega) | (refine ev_idxon rfl rfl ?_ ?_; (· first | omega | (simp only [List.length_cons, List.length_nil, List.length_map, List.length_append]; omega))) | (refine ev_idxfn rfl rfl ?_ ?_; (focus omega)) | ((with_reducible refine ev_idx ?_ ?_ ?_); (· rfl); · omega) | ( (refine ev_idxon rfl rfl ?_ ?_; (focus (simp only [List.length_map, List.length_set]; omega)))) | (refine ev_idxo rfl rfl ?_ ?_; (· first | omega | (simp only [List.length_cons, List.length_nil, List.length_map, List.length_append]; omega))) | (refine ev_idxf rfl rfl ?_ ?_; (focus omega)) | refine ev_bd rfl ?_ | refine ev_bd0 rfl ?_) | ((with_reducible refine eK ?_); first | (with_reducible first | refine ev_ct ?_ | refine ev_cf ?_) | ((with_reducible refine ev_cond ?_ ?_) <;> intro h)) | ((with_reducible refine eD ?_); first | refine ev_bd rfl ?_ | refine ev_bd0 rfl ?_ | ( (refine ev_sto (f := eFile) (a := ⟨q, (nth w i).data⟩) rfl rfl rfl rfl rfl rfl rfl rfl ?_ rfl ?_; (focus omega))) | ( (refine ev_sto (f := eFile) (a := ⟨q, q + 1⟩) rfl rfl rfl rfl rfl rfl rfl (by rw [e1]; rfl) ?_ rfl ?_; (focus (rw [List.length_set]; omega))))) | ((with_reducible refine ih ?_ _ f.1 f.2 _ _ _ ?_ ?_) <;> (first | omega | assumption | (simp only [*, List.map_append, List.length_append, List.length_cons, List.length_nil, List.map_cons, List.map_nil]; done) | (simp_all; done) | (simp_all; omega))) | refine ev_ret rfl ?_)
  · obtain rfl : w = markF k0 m := eq_of_nth (by rw [hw, markF_len]) fun j hj => by rw [markF_nth (by omega)]; exact hp j (by omega)
    (refine UL65_2 ?_; unfold LB65_2)
    repeat' (first | ((with_reducible refine eB ?_); first | ((with_reducible refine ev_lss ?_ ?_) <;> intro h <;> try (exfalso; omega)) | ((with_reducible refine ev_add ?_ ?_); · omega) | refine ev_bd rfl ?_ | refine ev_bd0 rfl ?_) | ((with_reducible refine eL ?_); first | ((with_reducible refine ev_lenm ?_ ?_); · rfl) | refine ev_lenom rfl rfl ?_ | refine ev_lenfm rfl rfl ?_ | refine ev_lenoc rfl rfl rfl ?_ | refine ev_lenc rfl rfl ?_ | refine ev_leno rfl rfl ?_ | refine ev_slen rfl ?_ | refine ev_bd rfl ?_ | refine ev_bd0 rfl ?_) | ((with_reducible refine eI ?_); first | ((with_reducible refine ev_idxn ?_ ?_ ?_); (· rfl); · omega) | (refine ev_idxon rfl rfl ?_ ?_; (· first | omega | (simp only [List.length_cons, List.length_nil, List.length_map, List.length_append]; omega))) | (refine ev_idxfn rfl rfl ?_ ?_; (focus omega)) | ((with_reducible refine ev_idx ?_ ?_ ?_); (· rfl); · omega) | (refine ev_idxo rfl rfl ?_ ?_; (· first | omega | (simp only [List.length_cons, List.length_nil, List.length_map, List.length_append]; omega))) | (refine ev_idxf rfl rfl ?_ ?_; (focus omega)) | refine ev_bd rfl ?_ | refine ev_bd0 rfl ?_) | ((with_reducible refine eK ?_); first | (with_reducible first | refine ev_ct ?_ | refine ev_cf ?_) | ((with_reducible refine ev_cond ?_ ?_) <;> intro h)) | ((with_reducible refine eD ?_); first | refine ev_bd rfl ?_ | refine ev_bd0 rfl ?_) | refine ev_ret rfl ?_)
    all_goals exact ⟨congrArg iI (by omega), rfl⟩
theorem s_markFileS (l : List TFile) (k0 : Int) (hk0 : 0 ≤ k0 ∧ k0 ≤ 1152921504606846976) (hl : l.length ≤ 2000000) : Ex (fun m => callF prg m 65 [.osl 0, iI k0] [.arr true 2 (l.map eFile)]) (iI (k0 + 2 * l.length)) [.arr true 2 ((markF k0 l.length).map eFile)] := by
  refine ev_is.1 ?_
  (refine U65 (nl := 1) rfl ?_; unfold B65)
  exact s_markFileS_L k0 hk0 l.length hl 0 (by omega) l rfl (fun j hj => by omega) _ 0 0 rfl (by simp)
theorem s_markFileS0 (k0 : Int) : Ex (fun m => callF prg m 65 [.sl 2 [], iI k0] []) (iI k0) [] := by
  refine ev_is.1 ?_
  (refine U65 (nl := 0) rfl ?_; unfold B65)
  repeat' (first | ((with_reducible refine eB ?_); first | ((with_reducible refine ev_lss ?_ ?_) <;> intro h <;> try (exfalso; omega)) | ((with_reducible refine ev_add ?_ ?_); · omega) | refine ev_bd rfl ?_ | refine ev_bd0 rfl ?_) | ((with_reducible refine eL ?_); first | ((with_reducible refine ev_lenm ?_ ?_); · rfl) | refine ev_lenom rfl rfl ?_ | refine ev_lenfm rfl rfl ?_ | refine ev_lenoc rfl rfl rfl ?_ | refine ev_lenc rfl rfl ?_ | refine ev_leno rfl rfl ?_ | refine ev_slen rfl ?_ | refine ev_bd rfl ?_ | refine ev_bd0 rfl ?_) | ((with_reducible refine eI ?_); first | ((with_reducible refine ev_idxn ?_ ?_ ?_); (· rfl); · omega) | (refine ev_idxon rfl rfl ?_ ?_; (· first | omega | (simp only [List.length_cons, List.length_nil, List.length_map, List.length_append]; omega))) | (refine ev_idxfn rfl rfl ?_ ?_; (focus omega)) | ((with_reducible refine ev_idx ?_ ?_ ?_); (· rfl); · omega) | (refine ev_idxo rfl rfl ?_ ?_; (· first | omega | (simp only [List.length_cons, List.length_nil, List.length_map, List.length_append]; omega))) | (refine ev_idxf rfl rfl ?_ ?_; (focus omega)) | refine ev_bd rfl ?_ | refine ev_bd0 rfl ?_) | ((with_reducible refine eK ?_); first | (with_reducible first | refine ev_ct ?_ | refine ev_cf ?_) | ((with_reducible refine ev_cond ?_ ?_) <;> intro h)) | ((with_reducible refine eD ?_); first | refine ev_bd rfl ?_ | refine ev_bd0 rfl ?_) | ((with_reducible first | refine UL65_2 ?_ | refine VL65_2 ?_); (unfold LB65_2)) | refine ev_ret rfl ?_)
  all_goals first | exact ⟨rfl, rfl⟩ | (exfalso; omega) | trace_state
def markD (k : Int) (n : Nat) : List TDep := (List.range n).map fun i : Nat => ⟨k + 2 * (i : Int), k + 2 * (i : Int) + 1⟩
theorem markD_len (k : Int) (n : Nat) : (markD k n).length = n := by simp [markD]
theorem markD_nth {k : Int} {n i : Nat} (h : i < n) : nth (markD k n) i = ⟨k + 2 * (i : Int), k + 2 * (i : Int) + 1⟩ := by
  unfold markD nth
  rw [List.getD_eq_getElem?_getD, List.getElem?_map, List.getElem?_range h]; rfl
theorem s_markDepS_L (k0 : Int) (hk0 : 0 ≤ k0 ∧ k0 ≤ 1152921504606846976) (m : Nat) (hm : m ≤ 2000000) : ∀ i, i ≤ m → ∀ (w : List TDep), w.length = m → (∀ j, j < i → nth w j = ⟨k0 + 2 * (j : Int), k0 + 2 * (j : Int) + 1⟩) → ∀ (q k : Int) (c : Nat), k = i → q = k0 + 2 * i →
    Ev (fun n => L66_2 (callF prg n) (n + 1) 1 (n + 1 - c) (.osl 0) (iI q) (iI k) [.arr true 2 (w.map eDep)]) (Is (iI (k0 + 2 * m)) [.arr true 2 ((markD k0 m).map eDep)]) := by
  refine up_ind ?_
  intro i hi ih w hw hp q k c hk hq
  subst hk
  have hfin : i < m → ∀ x : TDep, x = ⟨k0 + 2 * (i : Int), k0 + 2 * (i : Int) + 1⟩ → ∀ a : TDep, ((w.set i a).set i x).length = m ∧ ∀ j, j < i + 1 → nth ((w.set i a).set i x) j = ⟨k0 + 2 * (j : Int), k0 + 2 * (j : Int) + 1⟩ := fun h x hx a => by
    refine ⟨by rw [List.length_set, List.length_set]; exact hw, fun j hj => ?_⟩
    rw [List.set_set, nth_set']
    split
    · rename_i e; rw [← e.1]; exact hx
    · exact hp j (by omega)
  by_cases hi2 : i < m
  · have e1 : ∀ x, nth (w.set i x) i = x := fun x => by rw [nth_set', if_pos ⟨rfl, by omega⟩]
    have f := hfin hi2 ⟨q, q + 1⟩ (by rw [hq]) ⟨q, (nth w i).least⟩
    (refine UL66_2 ?_; unfold LB66_2)
    repeat' (first | ((with_reducible refine eB ?_); first | ((with_reducible refine ev_lss ?_ ?_) <;> intro h <;> try (exfalso; omega)) | ((with_reducible refine ev_add ?_ ?_); · omega) | refine ev_bd rfl ?_ | refine ev_bd0 rfl ?_) | ((with_reducible refine eL ?_); first | ((with_reducible refine ev_lenm ?_ ?_); · rfl) | refine ev_lenom rfl rfl ?_ | refine ev_lenfm rfl rfl ?_ | refine ev_lenoc rfl rfl rfl ?_ | refine ev_lenc rfl rfl ?_ | refine ev_leno rfl rfl ?_ | refine ev_slen rfl ?_ | refine ev_bd rfl ?_ | refine ev_bd0 rfl ?_) | ((with_reducible refine eI ?_); first | ((with_reducible refine ev_idxn ?_ ?_ ?_); (· rfl); · omega) | (refine ev_idxon rfl rfl ?_ ?_; (· first | omega | (simp only [List.length_cons, List.length_nil, List.length_map, List.length_append]; omega))) | (refine ev_idxfn rfl rfl ?_ ?_; (focus omega)) | ((with_reducible refine ev_idx ?_ ?_ ?_); (· rfl); · omega) | ( (refine ev_idxon rfl rfl ?_ ?_; (focus (simp only [List.length_map, List.length_set]; omega)))) | (refine ev_idxo rfl rfl ?_ ?_; (· first | omega | (simp only [List.length_cons, List.length_nil, List.length_map, List.length_append]; omega))) | (refine ev_idxf rfl rfl ?_ ?_; (focus omega)) | refine ev_bd rfl ?_ | refine ev_bd0 rfl ?_) | ((with_reducible refine eK ?_); first | (with_reducible first | refine ev_ct ?_ | refine ev_cf ?_) | ((with_reducible refine ev_cond ?_ ?_) <;> intro h)) | ((with_reducible refine eD ?_); first | refine ev_bd rfl ?_ | refine ev_bd0 rfl ?_ | ( (refine ev_sto (f := eDep) (a := ⟨q, (nth w i).least⟩) rfl rfl rfl rfl rfl rfl rfl rfl ?_ rfl ?_; (focus omega))) | ( (refine ev_sto (f := eDep) (a := ⟨q, q + 1⟩) rfl rfl rfl rfl rfl rfl rfl (by rw [e1]; rfl) ?_ rfl ?_; (focus (rw [List.length_set]; omega))))) | ((with_reducible refine ih ?_ _ f.1 f.2 _ _ _ ?_ ?_) <;> (first | omega | assumption | (simp only [*, List.map_append, List.length_append, List.length_cons, List.length_nil, List.map_cons, List.map_nil]; done) | (simp_all; done) | (simp_all; omega))) | refine ev_ret rfl ?_)
  · obtain rfl : w = markD k0 m := eq_of_nth (by rw [hw, markD_len]) fun j hj => by rw [markD_nth (by omega)]; exact hp j (by omega)
    (refine UL66_2 ?_; unfold LB66_2)
    repeat' (first | ((with_reducible refine eB ?_); first | ((with_reducible refine ev_lss ?_ ?_) <;> intro h <;> try (exfalso; omega)) | ((with_reducible refine ev_add ?_ ?_); · omega) | refine ev_bd rfl ?_ | refine ev_bd0 rfl ?_) | ((with_reducible refine eL ?_); first | ((with_reducible refine ev_lenm ?_ ?_); · rfl) | refine ev_lenom rfl rfl ?_ | refine ev_lenfm rfl rfl ?_ | refine ev_lenoc rfl rfl rfl ?_ | refine ev_lenc rfl rfl ?_ | refine ev_leno rfl rfl ?_ | refine ev_slen rfl ?_ | refine ev_bd rfl ?_ | refine ev_bd0 rfl ?_) | ((with_reducible refine eI ?_); first | ((with_reducible refine ev_idxn ?_ ?_ ?_); (· rfl); · omega) | (refine ev_idxon rfl rfl ?_ ?_; (· first | omega | (simp only [List.length_cons, List.length_nil, List.length_map, List.length_append]; omega))) | (refine ev_idxfn rfl rfl ?_ ?_; (focus omega)) | ((with_reducible refine ev_idx ?_ ?_ ?_); (· rfl); · omega) | (refine ev_idxo rfl rfl ?_ ?_; (· first | omega | (simp only [List.length_cons, List.length_nil, List.length_map, List.length_append]; omega))) | (refine ev_idxf rfl rfl ?_ ?_; (focus omega)) | refine ev_bd rfl ?_ | refine ev_bd0 rfl ?_) | ((with_reducible refine eK ?_); first | (with_reducible first | refine ev_ct ?_ | refine ev_cf ?_) | ((with_reducible refine ev_cond ?_ ?_) <;> intro h)) | ((with_reducible refine eD ?_); first | refine ev_bd rfl ?_ | refine ev_bd0 rfl ?_) | refine ev_ret rfl ?_)
    all_goals exact ⟨congrArg iI (by omega), rfl⟩
theorem s_markDepS (l : List TDep) (k0 : Int) (hk0 : 0 ≤ k0 ∧ k0 ≤ 1152921504606846976) (hl : l.length ≤ 2000000) : Ex (fun m => callF prg m 66 [.osl 0, iI k0] [.arr true 2 (l.map eDep)]) (iI (k0 + 2 * l.length)) [.arr true 2 ((markD k0 l.length).map eDep)] := by
  refine ev_is.1 ?_
  (refine U66 (nl := 1) rfl ?_; unfold B66)
  exact s_markDepS_L k0 hk0 l.length hl 0 (by omega) l rfl (fun j hj => by omega) _ 0 0 rfl (by simp)
theorem s_markDepS0 (k0 : Int) : Ex (fun m => callF prg m 66 [.sl 2 [], iI k0] []) (iI k0) [] := by
  refine ev_is.1 ?_
  (refine U66 (nl := 0) rfl ?_; unfold B66)
  repeat' (first | ((with_reducible refine eB ?_); first | ((with_reducible refine ev_lss ?_ ?_) <;> intro h <;> try (exfalso; omega)) | ((with_reducible refine ev_add ?_ ?_); · omega) | refine ev_bd rfl ?_ | refine ev_bd0 rfl ?_) | ((with_reducible refine eL ?_); first | ((with_reducible refine ev_lenm ?_ ?_); · rfl) | refine ev_lenom rfl rfl ?_ | refine ev_lenfm rfl rfl ?_ | refine ev_lenoc rfl rfl rfl ?_ | refine ev_lenc rfl rfl ?_ | refine ev_leno rfl rfl ?_ | refine ev_slen rfl ?_ | refine ev_bd rfl ?_ | refine ev_bd0 rfl ?_) | ((with_reducible refine eI ?_); first | ((with_reducible refine ev_idxn ?_ ?_ ?_); (· rfl); · omega) | (refine ev_idxon rfl rfl ?_ ?_; (· first | omega | (simp only [List.length_cons, List.length_nil, List.length_map, List.length_append]; omega))) | (refine ev_idxfn rfl rfl ?_ ?_; (focus omega)) | ((with_reducible refine ev_idx ?_ ?_ ?_); (· rfl); · omega) | (refine ev_idxo rfl rfl ?_ ?_; (· first | omega | (simp only [List.length_cons, List.length_nil, List.length_map, List.length_append]; omega))) | (refine ev_idxf rfl rfl ?_ ?_; (focus omega)) | refine ev_bd rfl ?_ | refine ev_bd0 rfl ?_) | ((with_reducible refine eK ?_); first | (with_reducible first | refine ev_ct ?_ | refine ev_cf ?_) | ((with_reducible refine ev_cond ?_ ?_) <;> intro h)) | ((with_reducible refine eD ?_); first | refine ev_bd rfl ?_ | refine ev_bd0 rfl ?_) | ((with_reducible first | refine UL66_2 ?_ | refine VL66_2 ?_); (unfold LB66_2)) | refine ev_ret rfl ?_)
  all_goals first | exact ⟨rfl, rfl⟩ | (exfalso; omega) | trace_state
end Go.Proofs.YtebaiioejagfoaaGreatDoor

/- Packages in memory whose inner slices lie in blocks of their own. -/
namespace Go.Proofs.YtebaiioejagfoaaGreatDoor
open Go
set_option linter.unusedVariables false
set_option linter.unusedSimpArgs false
set_option maxHeartbeats 4000000
def Two (l : List SV) : Prop := ∀ x, x ∈ l → ∃ a b : Int, x = .ag [iI a, iI b]
def twV : SV → Value
  | .ag [.v x, .v y] => .agg #[x, y]
  | _ => undef
def twL (l : List SV) : List Value := l.map twV
theorem two_files (l : List TFile) : Two (l.map eFile) := fun x hx => by
  obtain ⟨f, -, rfl⟩ := List.mem_map.1 hx
  exact ⟨_, _, rfl⟩
theorem two_deps (l : List TDep) : Two (l.map eDep) := fun x hx => by
  obtain ⟨f, -, rfl⟩ := List.mem_map.1 hx
  exact ⟨_, _, rfl⟩
theorem iI_rep {w : World} {B : Nat → Prop} {g : Nat → Gh} {a : Int} {v : Value} (h : RepV w B g (iI a) v) : v = .int .i64 a := by cases h; rfl
theorem tw_rep {w : World} {B : Nat → Prop} {g : Nat → Gh} {a b : Int} {v : Value} (h : RepV w B g (.ag [iI a, iI b]) v) : v = .agg #[.int .i64 a, .int .i64 b] := by
  cases h with
  | ag h1 h2 h3 =>
    rename_i vs
    match vs, h1 with
    | [x, y], _ =>
      obtain rfl := iI_rep (h2 0 _ _ rfl rfl)
      obtain rfl := iI_rep (h2 1 _ _ rfl rfl)
      rfl
theorem tw_rep' (w : World) (B : Nat → Prop) (g : Nat → Gh) (a b : Int) : RepV w B g (.ag [iI a, iI b]) (.agg #[.int .i64 a, .int .i64 b]) := by
  refine .ag (vs := [.int .i64 a, .int .i64 b]) rfl (fun i x v hx hv => ?_) (fun v hv => ?_)
  · match i with
    | 0 => cases hx; cases hv; exact .v rfl
    | 1 => cases hx; cases hv; exact .v rfl
    | i + 2 => cases hx
  · simp at hv; rcases hv with rfl | rfl <;> rfl
theorem twL_len (l : List SV) : (twL l).length = l.length := by simp [twL]
theorem twL_get {l : List SV} {i : Nat} {v : Value} (h : (twL l)[i]? = some v) : ∃ x, l[i]? = some x ∧ v = twV x := by
  unfold twL at h
  rw [List.getElem?_map] at h
  obtain ⟨x, hx, rfl⟩ := Option.map_eq_some_iff.1 h
  exact ⟨x, hx, rfl⟩
theorem twL_ok {l : List SV} (h : Two l) : ∀ v : Value, v ∈ twL l → ElOK 2 v := fun v hv => by
  obtain ⟨x, hx, rfl⟩ := List.mem_map.1 hv
  obtain ⟨a, b, rfl⟩ := h x hx
  refine ⟨rfl, fun c hc => ?_⟩
  simp [twV, Value.cells] at hc
  rcases hc with rfl | rfl <;> rfl
theorem twL_rep {l : List SV} (h : Two l) (w : World) (B : Nat → Prop) (g : Nat → Gh) : RepL w B g l (twL l) := by
  refine ⟨(twL_len l).symm, fun i x v hx hv => ?_⟩
  obtain ⟨y, hy, rfl⟩ := twL_get hv
  rw [hx] at hy; cases hy
  obtain ⟨a, b, rfl⟩ := h x (List.mem_of_getElem? hx)
  exact tw_rep' w B g a b
theorem twL_of {l : List SV} (h : Two l) {w : World} {B : Nat → Prop} {g : Nat → Gh} {vs : List Value} (hr : RepL w B g l vs) : vs = twL l := by
  refine List.ext_getElem? fun i => ?_
  cases hx : l[i]? with
  | none =>
    have h1 := List.getElem?_eq_none_iff.1 hx
    have hl := hr.1
    rw [List.getElem?_eq_none (by omega), List.getElem?_eq_none (by rw [twL_len]; omega)]
  | some x =>
    obtain ⟨v, hv, hr'⟩ := hr.get hx
    obtain ⟨a, b, rfl⟩ := h x (List.mem_of_getElem? hx)
    rw [hv, tw_rep hr']
    unfold twL
    rw [List.getElem?_map, hx]
    rfl
theorem Room.same {w w' : World} {b n sz : Nat} (h : Room w b n sz) (e : w'.heap[b]? = w.heap[b]?) : Room w' b n sz := by
  obtain ⟨cs, t, fz, a, c, d⟩ := h
  exact ⟨cs, t, fz, by rw [e]; exact a, c, d⟩
def In (w : World) (β : Nat) (l : List SV) (s : Value) : Prop :=
  (l = [] ∧ ∃ a c, s = .slice a 0 c) ∨ (l ≠ [] ∧ ∃ cap, s = .slice (some ⟨β, 0, none⟩) l.length cap ∧ l.length ≤ cap ∧ CellsAt w β 0 (flatV (twL l)) ∧ Room w β (cap * 2) 2)
theorem In.heap {w w' : World} {β : Nat} {l : List SV} {s : Value} (h : In w β l s) (e : l ≠ [] → w'.heap[β]? = w.heap[β]?) : In w' β l s := by
  rcases h with h | ⟨h1, cap, h2, h3, h4, h5⟩
  · exact .inl h
  · exact .inr ⟨h1, cap, h2, h3, h4.heap (e h1), h5.same (e h1)⟩
theorem In.one {w : World} {β : Nat} {l : List SV} {s : Value} (h : In w β l s) : s.oneCell' = true := by
  rcases h with ⟨-, a, c, rfl⟩ | ⟨h1, cap, rfl, -⟩ <;> rfl
theorem In.rep {w : World} {β : Nat} {l : List SV} {s : Value} (h2 : Two l) (h : In w β l s) {B : Nat → Prop} (hB : l ≠ [] → B β) (g : Nat → Gh) : RepV w B g (.sl 2 l) s := by
  rcases h with ⟨rfl, a, c, rfl⟩ | ⟨h1, cap, rfl, h3, h4, h5⟩
  · exact .sl0
  · have h := twL_rep h2 w B G0
    exact .sl h.1 h.2 (twL_ok h2) h4 (hB h1) h3
def gBk : Gh → Nat
  | .blk b _ _ _ => b
  | _ => 0
theorem In.of_obj {w : World} {B B' : Nat → Prop} {g : Nat → Gh} {j : Nat} {lt : Bool} {l : List SV} {s : Value} (h2 : Two l) (ho : ObjOK w B g j (.arr lt 2 l)) (hs : RepV w B' g (.osl j) s) : In w (gBk (g j)) l s ∧ (l ≠ [] → (g j).has (gBk (g j))) := by
  rcases ho with ⟨rfl, hn⟩ | ⟨b, cap, vs, h3, h4, h5, h6, h7, h8⟩
  · refine ⟨?_, fun h => absurd rfl h⟩
    cases hs with
    | osl0 => exact .inl ⟨rfl, _, _, rfl⟩
    | osl hg => rw [hn] at hg; cases hg
    | osln hg => rw [hn] at hg; cases hg
  · rw [h3]
    refine ⟨?_, fun _ => rfl⟩
    obtain rfl := twL_of h2 h5
    cases hs with
    | osl0 hg => rw [h3] at hg; cases hg
    | osln hg => rw [h3] at hg; cases hg
    | osl hg =>
      rw [h3] at hg; cases hg
      by_cases hl : l = []
      · subst hl; exact .inl ⟨rfl, _, _, rfl⟩
      · exact .inr ⟨hl, cap, rfl, h4, h7, h8⟩
theorem mem_nil (w : World) (A L : Nat → Prop) : Mem ⟨w.heap.size, A, L, w⟩ [] G0 w where
  objs j o h := by simp at h
  fresh j _ := rfl
  inj i j oi oj b h := by simp at h
  own b hb := by obtain ⟨j, o, h, -⟩ := hb; simp at h
  mine j sz l b h := by simp at h
  frame b _ _ := rfl
  size := Nat.le_refl _
  out := SameOut.refl _
theorem live_nil {g : Nat → Gh} {b : Nat} : ¬ live [] g b := fun ⟨j, o, h, _⟩ => by simp at h
def gOne (x : Gh) : Nat → Gh := fun i => if i = 0 then x else .no
theorem one_get {α : Type} {a b : α} {i : Nat} (h : ([a] : List α)[i]? = some b) : i = 0 ∧ b = a := by
  match i with
  | 0 => exact ⟨rfl, (Option.some.inj h).symm⟩
  | i + 1 => simp at h
theorem mem_arr {w : World} {β : Nat} {l : List SV} {cap : Nat} (h2 : Two l) (hb : β < w.heap.size) (hc : l.length ≤ cap) (hcs : CellsAt w β 0 (flatV (twL l))) (hr : Room w β (cap * 2) 2) (A : Nat → Prop) :
    Mem ⟨w.heap.size, A, fun b => b = β, w⟩ [.arr true 2 l] (gOne (.blk β 2 l.length cap)) w where
  objs j o h := by
    obtain ⟨rfl, rfl⟩ := one_get h
    exact .inr ⟨β, cap, twL l, rfl, hc, twL_rep h2 _ _ _, twL_ok h2, hcs, hr⟩
  fresh j hj := if_neg (by simp at hj; omega)
  inj i j oi oj b hi hj _ _ _ _ := by rw [(one_get hi).1, (one_get hj).1]
  own b hb := by
    obtain ⟨j, o, h, -, hh⟩ := hb
    obtain ⟨rfl, rfl⟩ := one_get h
    obtain rfl : β = b := hh
    exact ⟨hb, fun _ => rfl⟩
  mine j sz l b h _ := by cases (one_get h).2
  frame b _ _ := rfl
  size := Nat.le_refl _
  out := SameOut.refl _
theorem mark_in {f : Nat} {l l' : List SV} {k k1 : Int} (h2 : Two l) (h2' : Two l') (hl : l'.length = l.length) (e1 : Ex (fun m => callF prg m f [.osl 0, iI k] [.arr true 2 l]) (iI k1) [.arr true 2 l']) (e0 : l = [] → Ex (fun m => callF prg m f [.sl 2 [], iI k] []) (iI k1) [])
    {w : World} {β : Nat} {s : Value} (hs : In w β l s) (hb : l ≠ [] → β < w.heap.size) :
    Calls Tryz.prog f #[s, .int .i64 k] w fun e w' => e = .returned (.int .i64 k1) ∧ In w' β l' s ∧ (∀ b, b < w.heap.size → (l ≠ [] → b ≠ β) → w'.heap[b]? = w.heap[b]?) ∧ w.heap.size ≤ w'.heap.size ∧ SameOut w w' := by
  rcases hs with ⟨rfl, a, c, rfl⟩ | ⟨h1, cap, rfl, h3, h4, h5⟩
  · obtain ⟨n0, h0⟩ := e0 rfl
    obtain ⟨-, hk⟩ := callF_ok prgR n0 f _ _ _ _ (h0 n0 (Nat.le_refl _))
    refine (hk (fun _ => True) (fun _ => False) G0 [.slice a 0 c, .int .i64 k] w (fun b hb => (live_nil hb).elim) (mem_nil w _ _) (RepL.cons .sl0 (RepL.cons (.v rfl) RepL.nil))).mono ?_
    rintro e w' ⟨v, g', rfl, m, -, hr, -⟩
    obtain rfl := iI_rep hr
    obtain rfl : l' = [] := List.length_eq_zero_iff.1 hl
    exact ⟨rfl, .inl ⟨rfl, _, _, rfl⟩, fun b hb _ => m.frame b hb id, m.size, m.out⟩
  · obtain ⟨n0, h0⟩ := e1
    obtain ⟨-, hk⟩ := callF_ok prgR n0 f _ _ _ _ (h0 n0 (Nat.le_refl _))
    have hm := mem_arr h2 (hb h1) h3 h4 h5 (fun _ => True)
    refine (hk (fun _ => True) (fun b => b = β) _ [.slice (some ⟨β, 0, none⟩) l.length cap, .int .i64 k] w (fun b hb => (hm.own b hb).2 (hm.own b hb).1) hm (RepL.cons (.osl rfl) (RepL.cons (.v rfl) RepL.nil))).mono ?_
    rintro e w' ⟨v, g', rfl, m, hg, hr, -⟩
    obtain rfl := iI_rep hr
    have hg0 : g' 0 = .blk β 2 l.length cap := hg 0 (by simp) (by intro h; cases h)
    refine ⟨rfl, ?_, fun b hb hne => m.frame b hb (hne h1), m.size, m.out⟩
    have hne' : l' ≠ [] := fun e => h1 (List.length_eq_zero_iff.1 (by rw [← hl, e]; rfl))
    rcases m.objs 0 _ rfl with ⟨hn, -⟩ | ⟨b, cap', vs, q1, q2, q3, q4, q5, q6⟩
    · exact absurd hn hne'
    · rw [hg0] at q1
      injection q1 with q1 _ q7 q8
      subst q1 q8
      obtain rfl := twL_of h2' q3
      exact .inr ⟨hne', cap, by rw [hl], by rw [hl]; exact h3, q5, q6⟩
theorem bk_nil {w : World} {A L : Nat → Prop} {g : Nat → Gh} {b : Nat} (hb : b < w.heap.size) (hA : A b) : Bk ⟨w.heap.size, A, L, w⟩ [] g w b := ⟨hb, fun _ => hA, live_nil⟩
theorem ag4 {w : World} {B : Nat → Prop} {g : Nat → Gh} {a b c d : SV} {v : Value} (h : RepV w B g (.ag [a, b, c, d]) v) : ∃ v0 v1 v2 v3, v = .agg #[v0, v1, v2, v3] ∧ RepV w B g a v0 ∧ RepV w B g b v1 ∧ RepV w B g c v2 ∧ RepV w B g d v3 := by
  cases h with
  | ag h1 h2 h3 =>
    rename_i vs
    match vs, h1 with
    | [v0, v1, v2, v3], _ => exact ⟨v0, v1, v2, v3, rfl, h2 0 _ _ rfl rfl, h2 1 _ _ rfl rfl, h2 2 _ _ rfl rfl, h2 3 _ _ rfl rfl⟩
theorem topk_in {p : TPkg} (h1 : p.files.length ≤ 2000000) (h2 : p.deps.length ≤ 2000000) {w : World} {B : Nat → Prop} {pv : Value} (hp : RepV w B G0 (ePkg p) pv) (hB : ∀ b, B b → b < w.heap.size) :
    Calls Tryz.prog 55 #[pv] w fun e w' => ∃ β1 β2 s1 s2, e = .returned (.agg #[.int .i64 p.name, .int .i64 p.ver, s1, s2]) ∧ In w' β1 (p.files.map eFile) s1 ∧ In w' β2 (p.deps.map eDep) s2 ∧ (p.files ≠ [] → w.heap.size ≤ β1 ∧ β1 < w'.heap.size) ∧ (p.deps ≠ [] → w.heap.size ≤ β2 ∧ β2 < w'.heap.size) ∧
      (p.files ≠ [] → p.deps ≠ [] → β1 ≠ β2) ∧ (∀ b, b < w.heap.size → w'.heap[b]? = w.heap[b]?) ∧ w.heap.size ≤ w'.heap.size ∧ SameOut w w' := by
  obtain ⟨n0, h0⟩ := s_toPkg p h1 h2
  obtain ⟨-, hk⟩ := callF_ok prgR n0 _ _ _ _ _ (h0 n0 (Nat.le_refl _))
  have hp' : RepV w (Bk ⟨w.heap.size, fun _ => True, fun _ => False, w⟩ [] G0 w) G0 (ePkg p) pv := hp.mono (fun b hb => bk_nil (hB b hb) trivial) (fun _ _ => rfl) G0 (fun _ h => h.elim rfl)
  refine (hk (fun _ => True) (fun _ => False) G0 [pv] w (fun b hb => (live_nil hb).elim) (mem_nil w _ _) (RepL.cons hp' RepL.nil)).mono ?_
  rintro e w' ⟨v, g', rfl, m, -, hr, -⟩
  obtain ⟨v0, v1, v2, v3, rfl, r0, r1, r2, r3⟩ := ag4 hr
  obtain rfl := iI_rep r0
  obtain rfl := iI_rep r1
  obtain ⟨i1, j1⟩ := In.of_obj (two_files p.files) (m.objs 0 _ rfl) r2
  obtain ⟨i2, j2⟩ := In.of_obj (two_deps p.deps) (m.objs 1 _ rfl) r3
  have n1 : p.files ≠ [] → p.files.map eFile ≠ [] := fun h e => h (List.map_eq_nil_iff.1 e)
  have n2 : p.deps ≠ [] → p.deps.map eDep ≠ [] := fun h e => h (List.map_eq_nil_iff.1 e)
  refine ⟨_, _, v2, v3, rfl, i1, i2, fun h => ⟨m.mine 0 _ _ _ rfl (j1 (n1 h)), (m.own _ ⟨0, _, rfl, rfl, j1 (n1 h)⟩).1⟩, fun h => ⟨m.mine 1 _ _ _ rfl (j2 (n2 h)), (m.own _ ⟨1, _, rfl, rfl, j2 (n2 h)⟩).1⟩, fun h h' e => ?_, fun b hb => m.frame b hb id, m.size, m.out⟩
  have q := j2 (n2 h')
  rw [← e] at q
  have := m.inj 0 1 _ _ _ rfl rfl rfl rfl (j1 (n1 h)) q
  omega
end Go.Proofs.YtebaiioejagfoaaGreatDoor

/- Packages in memory: the array and its inner slices, as an object of S. -/
namespace Go.Proofs.YtebaiioejagfoaaGreatDoor
open Go
set_option linter.unusedVariables false
set_option linter.unusedSimpArgs false
set_option maxHeartbeats 4000000
def Ne (s : List TPkg) (i c : Nat) : Prop := i < s.length ∧ ((c = 2 ∧ (nth s i).files ≠ []) ∨ (c = 3 ∧ (nth s i).deps ≠ []))
def pkV (p : TPkg) (s1 s2 : Value) : Value := .agg #[.int .i64 p.name, .int .i64 p.ver, s1, s2]
structure PkS (w : World) (b m : Nat) (f : Nat → Nat → Nat) (ins : List Nat) (s : List TPkg) (vs : List Value) : Prop where
  cap : s.length ≤ m
  len : vs.length = s.length
  el : ∀ i, i < s.length → ∃ s1 s2, vs[i]? = some (pkV (nth s i) s1 s2) ∧ In w (f i 2) ((nth s i).files.map eFile) s1 ∧ In w (f i 3) ((nth s i).deps.map eDep) s2
  cells : CellsAt w b 0 (flatV vs)
  room : Room w b (m * 4) 4
  out : b ∉ ins
  mem : ∀ i c, Ne s i c → f i c ∈ ins
  inj : ∀ i c i' c', Ne s i c → Ne s i' c' → f i c = f i' c' → i = i' ∧ c = c'
theorem ne_files {p : TPkg} : p.files.map eFile ≠ [] ↔ p.files ≠ [] := by simp
theorem ne_deps {p : TPkg} : p.deps.map eDep ≠ [] ↔ p.deps ≠ [] := by simp
theorem pk_one {p : TPkg} {s1 s2 : Value} (h1 : s1.oneCell' = true) (h2 : s2.oneCell' = true) : ElOK 4 (pkV p s1 s2) := ⟨rfl, fun c hc => by
  simp [pkV, Value.cells] at hc
  rcases hc with rfl | rfl | rfl | rfl <;> first | rfl | assumption⟩
theorem pk_rep {w : World} {B : Nat → Prop} {g : Nat → Gh} {p : TPkg} {s1 s2 : Value} (h1 : RepV w B g (.sl 2 (p.files.map eFile)) s1) (h2 : RepV w B g (.sl 2 (p.deps.map eDep)) s2) (o1 : s1.oneCell' = true) (o2 : s2.oneCell' = true) : RepV w B g (ePkg p) (pkV p s1 s2) := by
  refine .ag (vs := [.int .i64 p.name, .int .i64 p.ver, s1, s2]) rfl (fun i x v hx hv => ?_) (fun v hv => ?_)
  · match i with
    | 0 => cases hx; cases hv; exact .v rfl
    | 1 => cases hx; cases hv; exact .v rfl
    | 2 => cases hx; cases hv; exact h1
    | 3 => cases hx; cases hv; exact h2
    | i + 4 => cases hx
  · simp at hv; rcases hv with rfl | rfl | rfl | rfl <;> first | rfl | assumption
theorem vs_get {vs : List Value} {i : Nat} {v : Value} (hv : v ∈ vs) : ∃ i, i < vs.length ∧ vs[i]? = some v := by
  obtain ⟨i, hi, e⟩ := List.mem_iff_getElem.1 hv
  exact ⟨i, hi, by rw [List.getElem?_eq_getElem hi, e]⟩
theorem PkS.ok {w : World} {b m : Nat} {f : Nat → Nat → Nat} {ins : List Nat} {s : List TPkg} {vs : List Value} (h : PkS w b m f ins s vs) : ∀ v : Value, v ∈ vs → ElOK 4 v := fun v hv => by
  obtain ⟨i, hi, e⟩ := vs_get (i := 0) hv
  obtain ⟨s1, s2, h1, h2, h3⟩ := h.el i (by rw [← h.len]; exact hi)
  rw [e] at h1; cases h1
  exact pk_one h2.one h3.one
theorem mem_le_sum {l : List Nat} {x : Nat} (h : x ∈ l) : x ≤ l.sum := by
  induction l with
  | nil => cases h
  | cons y l ih =>
    rcases List.mem_cons.1 h with rfl | h
    · simp
    · have := ih h; simp only [List.sum_cons]; omega
theorem pair_lt {n n' c c' : Nat} (h1 : c ≤ n) (h2 : n < n') : n * n + c < n' * n' + c' := by
  have h3 : (n + 1) * (n + 1) ≤ n' * n' := Nat.mul_le_mul h2 h2
  have h4 : (n + 1) * (n + 1) = n * n + n + n + 1 := by rw [Nat.add_mul, Nat.mul_add]; omega
  omega
theorem pair_inj {i c i' c' : Nat} (h : (i + c) * (i + c) + c = (i' + c') * (i' + c') + c') : i = i' ∧ c = c' := by
  rcases Nat.lt_trichotomy (i + c) (i' + c') with h1 | h1 | h1
  · have := pair_lt (c := c) (c' := c') (by omega) h1; omega
  · rw [h1] at h; omega
  · have := pair_lt (c := c') (c' := c) (by omega) h1; omega
open Classical in
noncomputable def allF (s : List TPkg) (f : Nat → Nat → Nat) (ins : List Nat) (i c : Nat) : Nat := if Ne s i c then f i c else ins.sum + 1 + ((i + c) * (i + c) + c)
theorem allF_inj {w : World} {b m : Nat} {f : Nat → Nat → Nat} {ins : List Nat} {s : List TPkg} {vs : List Value} (h : PkS w b m f ins s vs) : ∀ i c i' c', allF s f ins i c = allF s f ins i' c' → i = i' ∧ c = c' := by
  intro i c i' c' e
  unfold allF at e
  by_cases h1 : Ne s i c
  · by_cases h2 : Ne s i' c'
    · rw [if_pos h1, if_pos h2] at e; exact h.inj _ _ _ _ h1 h2 e
    · rw [if_pos h1, if_neg h2] at e; have := mem_le_sum (h.mem _ _ h1); omega
  · by_cases h2 : Ne s i' c'
    · rw [if_neg h1, if_pos h2] at e; have := mem_le_sum (h.mem _ _ h2); omega
    · rw [if_neg h1, if_neg h2] at e; exact pair_inj (by omega)
theorem allF_pos {s : List TPkg} {f : Nat → Nat → Nat} {ins : List Nat} {i c : Nat} (h : Ne s i c) : allF s f ins i c = f i c := by unfold allF; rw [if_pos h]
theorem map_get {α : Type} [Inhabited α] {l : List α} {e : α → SV} {i : Nat} {x : SV} (h : (l.map e)[i]? = some x) : i < l.length ∧ x = e (nth l i) := by
  rw [List.getElem?_map] at h
  obtain ⟨y, hy, rfl⟩ := Option.map_eq_some_iff.1 h
  have hi := lt_of_getElem? hy
  rw [get_nth hi] at hy
  cases hy
  exact ⟨hi, rfl⟩
theorem get_map {α : Type} [Inhabited α] {l : List α} {e : α → SV} {i : Nat} (h : i < l.length) : (l.map e)[i]? = some (e (nth l i)) := by rw [List.getElem?_map, get_nth h]; rfl
theorem PkS.obj {w : World} {b m : Nat} {f : Nat → Nat → Nat} {ins : List Nat} {s : List TPkg} {vs : List Value} (h : PkS w b m f ins s vs) {g : Nat → Gh} {j : Nat} (hg : g j = .nst b 4 s.length m ins) (lt : Bool) (B : Nat → Prop) : ObjOK w B g j (.nst lt 4 (s.map ePkg)) := by
  refine .inr ⟨b, m, vs, ins, by rw [List.length_map]; exact hg, by rw [List.length_map]; exact h.cap, ⟨by rw [List.length_map]; exact h.len.symm, fun i x v hx hv => ?_⟩, h.ok, h.cells, h.room, h.out, allF s f ins, ?_, allF_inj h⟩
  · obtain ⟨hi, rfl⟩ := map_get hx
    obtain ⟨s1, s2, h1, h2, h3⟩ := h.el i hi
    rw [hv] at h1; cases h1
    exact pk_rep (h2.rep (two_files _) (fun hn => h.mem i 2 ⟨hi, .inl ⟨rfl, ne_files.1 hn⟩⟩) _) (h3.rep (two_deps _) (fun hn => h.mem i 3 ⟨hi, .inr ⟨rfl, ne_deps.1 hn⟩⟩) _) h2.one h3.one
  · intro i c x v sz mm hx hv hc hm
    obtain ⟨hi, rfl⟩ := map_get hx
    obtain ⟨s1, s2, h1, h2, h3⟩ := h.el i hi
    rw [hv] at h1; cases h1
    match c with
    | 0 => cases hc
    | 1 => cases hc
    | 2 =>
      obtain ⟨rfl, rfl⟩ : 2 = sz ∧ (nth s i).files.map eFile = mm := by injection hc with hc; injection hc with h1 h2; exact ⟨h1, h2⟩
      have hne : Ne s i 2 := ⟨hi, .inl ⟨rfl, ne_files.1 hm⟩⟩
      rw [allF_pos hne]
      rcases h2 with ⟨h9, -⟩ | ⟨-, cap, rfl, h5, h6, h7⟩
      · exact absurd h9 hm
      · exact ⟨h.mem _ _ hne, cap, rfl, h7⟩
    | 3 =>
      obtain ⟨rfl, rfl⟩ : 2 = sz ∧ (nth s i).deps.map eDep = mm := by injection hc with hc; injection hc with h1 h2; exact ⟨h1, h2⟩
      have hne : Ne s i 3 := ⟨hi, .inr ⟨rfl, ne_deps.1 hm⟩⟩
      rw [allF_pos hne]
      rcases h3 with ⟨h9, -⟩ | ⟨-, cap, rfl, h5, h6, h7⟩
      · exact absurd h9 hm
      · exact ⟨h.mem _ _ hne, cap, rfl, h7⟩
    | c + 4 => cases hc
theorem sl_nil {w : World} {B : Nat → Prop} {g : Nat → Gh} {sz : Nat} {l : List SV} {v : Value} (h : RepV w B g (.sl sz l) v) (hl : l = []) : ∃ a c, v = .slice a 0 c := by
  cases h with
  | sl0 => exact ⟨_, _, rfl⟩
  | sl h1 h2 h3 h4 h5 h6 => subst hl; exact ⟨_, _, rfl⟩
theorem In.of_sl {w : World} {B : Nat → Prop} {g : Nat → Gh} {l : List SV} {s : Value} {β cap : Nat} (h2 : Two l) (hr : RepV w B g (.sl 2 l) s) (hf : l ≠ [] → s = .slice (some ⟨β, 0, none⟩) l.length cap ∧ Room w β (cap * 2) 2) : In w β l s := by
  by_cases hl : l = []
  · exact .inl ⟨hl, sl_nil hr hl⟩
  · obtain ⟨rfl, hR⟩ := hf hl
    refine .inr ⟨hl, cap, rfl, ?_⟩
    generalize hx : SV.sl 2 l = x at hr
    generalize hv : Value.slice (some ⟨β, 0, none⟩) l.length cap = v at hr
    cases hr <;> cases hx
    · exact absurd rfl hl
    · rename_i a1 a2 a3 a4 a5 a6
      injection hv with q1 q2 q3
      injection q1 with q1
      injection q1 with q4 q5 q6
      subst q3 q4 q5
      obtain rfl := twL_of h2 ⟨a4, a5⟩
      exact ⟨a6, a1, hR⟩
theorem PkS.of {w : World} {B : Nat → Prop} {g : Nat → Gh} {j : Nat} {lt : Bool} {s : List TPkg} (ho : ObjOK w B g j (.nst lt 4 (s.map ePkg))) (hs : s ≠ []) : ∃ b m f ins vs, g j = .nst b 4 s.length m ins ∧ PkS w b m f ins s vs := by
  rcases ho with ⟨h1, -⟩ | ⟨b, m, vs, ins, h1, h2, h3, h4, h5, h6, h7, f, f1, f2⟩
  · exact absurd (List.map_eq_nil_iff.1 h1) hs
  · rw [List.length_map] at h1 h2
    refine ⟨b, m, f, ins, vs, h1, h2, by rw [← h3.1, List.length_map], fun i hi => ?_, h5, h6, h7, fun i c hc => ?_, fun i c i' c' _ _ e => f2 _ _ _ _ e⟩
    · obtain ⟨v, hv, hr⟩ := h3.get (get_map (e := ePkg) hi)
      obtain ⟨v0, v1, v2, v3, rfl, r0, r1, r2, r3⟩ := ag4 hr
      obtain rfl := iI_rep r0
      obtain rfl := iI_rep r1
      refine ⟨v2, v3, hv, ?_, ?_⟩
      · by_cases hn : (nth s i).files.map eFile = []
        · exact .inl ⟨hn, sl_nil r2 hn⟩
        · obtain ⟨-, cap, e, hR⟩ := f1 i 2 _ _ 2 _ (get_map (e := ePkg) hi) hv rfl hn
          obtain rfl : v2 = _ := Option.some.inj e
          exact In.of_sl (two_files _) r2 fun _ => ⟨rfl, hR⟩
      · by_cases hn : (nth s i).deps.map eDep = []
        · exact .inl ⟨hn, sl_nil r3 hn⟩
        · obtain ⟨-, cap, e, hR⟩ := f1 i 3 _ _ 2 _ (get_map (e := ePkg) hi) hv rfl hn
          obtain rfl : v3 = _ := Option.some.inj e
          exact In.of_sl (two_deps _) r3 fun _ => ⟨rfl, hR⟩
    · obtain ⟨hi, hc⟩ := hc
      obtain ⟨v, hv, hr⟩ := h3.get (get_map (e := ePkg) hi)
      rcases hc with ⟨rfl, hc⟩ | ⟨rfl, hc⟩
      · exact (f1 i 2 _ _ 2 _ (get_map (e := ePkg) hi) hv rfl (ne_files.2 hc)).1
      · exact (f1 i 3 _ _ 2 _ (get_map (e := ePkg) hi) hv rfl (ne_deps.2 hc)).1
theorem PkS.upd {w w' : World} {b m : Nat} {f f' : Nat → Nat → Nat} {ins ins' : List Nat} {s : List TPkg} {vs : List Value} (h : PkS w b m f ins s vs) {k : Nat} (hk : k < s.length) {p : TPkg} {s1 s2 : Value} (hf : ∀ i c, i ≠ k → f' i c = f i c)
    (hb : CellsAt w' b 0 (flatV (vs.set k (pkV p s1 s2)))) (hr : Room w' b (m * 4) 4) (ho : ∀ i c, i ≠ k → Ne s i c → w'.heap[f i c]? = w.heap[f i c]?) (h1 : In w' (f' k 2) (p.files.map eFile) s1) (h2 : In w' (f' k 3) (p.deps.map eDep) s2) (hout : b ∉ ins')
    (hsub : ∀ c, c ∈ ins → c ∈ ins') (hm1 : p.files ≠ [] → f' k 2 ∈ ins') (hm2 : p.deps ≠ [] → f' k 3 ∈ ins') (hi1 : ∀ i c, i ≠ k → Ne s i c → (p.files ≠ [] → f' k 2 ≠ f i c) ∧ (p.deps ≠ [] → f' k 3 ≠ f i c)) (hi2 : p.files ≠ [] → p.deps ≠ [] → f' k 2 ≠ f' k 3) :
    PkS w' b m f' ins' (s.set k p) (vs.set k (pkV p s1 s2)) := by
  have hnk : nth (s.set k p) k = p := by rw [nth_set', if_pos ⟨rfl, hk⟩]
  have hno : ∀ i, i ≠ k → nth (s.set k p) i = nth s i := fun i hi => by rw [nth_set', if_neg (fun e => hi e.1.symm)]
  have hNo : ∀ i c, i ≠ k → Ne (s.set k p) i c → Ne s i c := fun i c hi hn => by unfold Ne at hn ⊢; rw [hno i hi, List.length_set] at hn; exact hn
  have hNk : ∀ c, Ne (s.set k p) k c → (c = 2 ∧ p.files ≠ []) ∨ (c = 3 ∧ p.deps ≠ []) := fun c hn => by unfold Ne at hn; rw [hnk] at hn; exact hn.2
  refine ⟨by rw [List.length_set]; exact h.cap, by rw [List.length_set, List.length_set]; exact h.len, fun i hi => ?_, hb, hr, hout, fun i c hn => ?_, fun i c i' c' hn hn' e => ?_⟩
  · rw [List.length_set] at hi
    by_cases e : i = k
    · subst e
      rw [hnk]
      exact ⟨s1, s2, by rw [List.getElem?_set_self (by rw [h.len]; exact hk)], h1, h2⟩
    · rw [hno i e, hf i 2 e, hf i 3 e]
      obtain ⟨t1, t2, e1, e2, e3⟩ := h.el i hi
      exact ⟨t1, t2, by rw [List.getElem?_set_ne (fun q => e q.symm)]; exact e1, e2.heap fun hn => ho i 2 e ⟨hi, .inl ⟨rfl, ne_files.1 hn⟩⟩, e3.heap fun hn => ho i 3 e ⟨hi, .inr ⟨rfl, ne_deps.1 hn⟩⟩⟩
  · by_cases e : i = k
    · subst e
      rcases hNk c hn with ⟨rfl, q⟩ | ⟨rfl, q⟩
      · exact hm1 q
      · exact hm2 q
    · rw [hf i c e]; exact hsub _ (h.mem i c (hNo i c e hn))
  · by_cases ek : i = k
    · subst ek
      by_cases ek' : i' = i
      · subst ek'
        refine ⟨rfl, ?_⟩
        rcases hNk c hn with ⟨rfl, q⟩ | ⟨rfl, q⟩ <;> rcases hNk c' hn' with ⟨rfl, q'⟩ | ⟨rfl, q'⟩
        · rfl
        · exact absurd e (hi2 q q')
        · exact absurd e.symm (hi2 q' q)
        · rfl
      · rw [hf i' c' ek'] at e
        have hh := hi1 i' c' ek' (hNo i' c' ek' hn')
        rcases hNk c hn with ⟨rfl, q⟩ | ⟨rfl, q⟩
        · exact absurd e (hh.1 q)
        · exact absurd e (hh.2 q)
    · rw [hf i c ek] at e
      by_cases ek' : i' = k
      · subst ek'
        have hh := hi1 i c ek (hNo i c ek hn)
        rcases hNk c' hn' with ⟨rfl, q⟩ | ⟨rfl, q⟩
        · exact absurd e.symm (hh.1 q)
        · exact absurd e.symm (hh.2 q)
      · rw [hf i' c' ek'] at e
        exact h.inj _ _ _ _ (hNo i c ek hn) (hNo i' c' ek' hn') e
theorem set_cells {w : World} {b m k off : Nat} {vs : List Value} {u u' : Value} {cs : List Value} (hR : Room w b (m * 4) 4) (hc : CellsAt w b 0 (flatV vs)) (h : ∀ v : Value, v ∈ vs → ElOK 4 v) (hu : vs[k]? = some u) (hm : vs.length ≤ m)
    (e : u'.cells.toList = u.cells.toList.take off ++ cs ++ u.cells.toList.drop (off + cs.length)) (ho : off + cs.length ≤ 4) : CellsAt (w.setCells b (k * 4 + off) cs) b 0 (flatV (vs.set k u')) := by
  have hk := lt_of_getElem? hu
  rw [flatV_set h hu e ho]
  exact cells_setCells hR hc (by rw [flatV_length h]; omega) (by omega)
end Go.Proofs.YtebaiioejagfoaaGreatDoor

/- The texts of packages: numbers, names. -/
set_option linter.unusedVariables false
set_option linter.unusedSimpArgs false
namespace Go.Proofs.YtebaiioejagfoaaGreatDoor
open Go Go.Shelf Go.RowKit Go.Lib Go.Proofs
set_option maxHeartbeats 4000000
set_option maxRecDepth 100000
theorem itoa_small (n : Int) (h : 0 ≤ n ∧ n < 10) (w : World) : Calls Tryz.prog 42 #[.int .i64 n] w fun e w' => e = .returned (.string ⟨#[bt (48 + n)]⟩) ∧ w' = w := by
  have mixed : Tryz.prog.follows .mixedOrders = true := by kernel_rfl
  have hc : n = 0 ∨ n = 1 ∨ n = 2 ∨ n = 3 ∨ n = 4 ∨ n = 5 ∨ n = 6 ∨ n = 7 ∨ n = 8 ∨ n = 9 := by omega
  rcases hc with rfl | rfl | rfl | rfl | rfl | rfl | rfl | rfl | rfl | rfl
  all_goals
    go_enter Tryz.func42, Tryz.ntmps42
    go_wp2
    go_ret
    exact ⟨rfl, rfl⟩
theorem named_walk (name ver : Int) (h : 1 ≤ name ∧ name ≤ 4) (hv : 0 ≤ ver ∧ ver < 10) (w : World) : Calls Tryz.prog 41 #[.int .i64 name, .int .i64 ver] w fun e w' => e = .returned (.string ⟨#[bt (96 + name), bt (48 + ver)]⟩) ∧ w' = w := by
  have mixed : Tryz.prog.follows .mixedOrders = true := by kernel_rfl
  have hc : name = 1 ∨ name = 2 ∨ name = 3 ∨ name = 4 := by omega
  rcases hc with rfl | rfl | rfl | rfl
  all_goals
    go_enter Tryz.func41, Tryz.ntmps41
    go_wp2_with (go_at_call 42; refine (itoa_small ver hv _).mono ?_; rintro e w' ⟨rfl, rfl⟩)
    go_ret
    exact ⟨rfl, rfl⟩
end Go.Proofs.YtebaiioejagfoaaGreatDoor

/- The text of a package, walked: strings.Builder, strconv.Itoa. -/
set_option linter.unusedVariables false
set_option linter.unusedSimpArgs false
namespace Go.Proofs.YtebaiioejagfoaaGreatDoor
open Go Go.Shelf Go.RowKit Go.Lib Go.Proofs
set_option maxHeartbeats 4000000
set_option maxRecDepth 100000
theorem wpList_al {P : Program} {ops : Array Oper} {rest : List Oper} {o : Oper} {a : Act} {w w' : World} {Q : Exit → Act → World → Prop} (hgd : o.guard = none) (ty : TypeId) (ho : o.op = .alloc ty)
    (p : Value) (hr : (Instr.alloc ty true (.tuple #[])).run P w = .ok p w') (h : wpList P ops Q rest (a.put o.dst p) w') : wpList P ops Q (o :: rest) a w :=
  wpList_plain hgd fun _ hK => by
    unfold Oper.wp execOp
    simp only [ho, Sem.run_bind, hr, Result.andThen_ok, Sem.run_pure]
    exact hK _ _ h
theorem al_builder (w : World) : (Instr.alloc 81 true (.tuple #[])).run Tryz.prog w = .ok (.pointer (some ⟨w.heap.size, 0, none⟩)) (w.alloc (.cells #[.pointer none, .slice none 0 0] 81)) := by
  simp [Instr.alloc, Tryz.zeroValue81, newVar, newRow, Value.cells]
theorem al_file (w : World) : (Instr.alloc 88 true (.tuple #[])).run Tryz.prog w = .ok (.pointer (some ⟨w.heap.size, 0, none⟩)) (w.alloc (.cells #[.int .i64 0, .int .i64 0] 88)) := by
  simp [Instr.alloc, Tryz.zeroValue88, newVar, newRow, Value.cells]
theorem al_dep (w : World) : (Instr.alloc 91 true (.tuple #[])).run Tryz.prog w = .ok (.pointer (some ⟨w.heap.size, 0, none⟩)) (w.alloc (.cells #[.int .i64 0, .int .i64 0] 91)) := by
  simp [Instr.alloc, Tryz.zeroValue91, newVar, newRow, Value.cells]
theorem bld_keep {T e B b : Nat} {bs : List Value} {w w' : World} (h : Lib.IsBuilderF T e B b bs w) (hw : ∀ k, k < w.heap.size → w'.heap[k]? = w.heap[k]?) : Lib.IsBuilderF T e B b bs w' := by
  have key : ∀ p, Lib.BuilderAtF T e B b p bs w → Lib.BuilderAtF T e B b p bs w' := by
    rintro p ⟨hB, v, hb, hown, hne⟩
    have lt : ∀ {k : Nat} {o : Obj}, w.heap[k]? = some o → k < w.heap.size := fun h => (Array.getElem?_eq_some_iff.1 h).1
    refine ⟨hB, v, by rw [hw b (lt hb)]; exact hb, ⟨hown.1, ?_⟩, hne⟩
    rcases hown.2 with h | ⟨g, cap, cur, fz, h1, h2, h3, h4⟩
    · exact .inl h
    · exact .inr ⟨g, cap, cur, fz, h1, h2, by rw [hw g (lt h3)]; exact h3, h4⟩
  exact h.imp (key _) (key _)
structure Two2 (w W : World) (a b : Int) : Prop where
  c0 : W.cell? ⟨w.heap.size, 0, none⟩ = some (.int .i64 a)
  c1 : W.cell? ⟨w.heap.size, 1, none⟩ = some (.int .i64 b)
  keep : ∀ k, k < w.heap.size → W.heap[k]? = w.heap[k]?
  size : w.heap.size ≤ W.heap.size
  out : SameOut w W
theorem two_new {w : World} {t : Nat} {q : TI} (hq : TiOk Tryz.prog t q) (h2 : q.size = 2) (a b : Int) : ∃ W, (Instr.storeAt t (.pointer (some ⟨w.heap.size, 0, none⟩)) (.agg #[.int .i64 a, .int .i64 b])).run Tryz.prog (w.alloc (.cells #[.int .i64 0, .int .i64 0] t)) = .ok () W ∧ Two2 w W a b := by
  have R0 : Room (w.alloc (.cells #[.int .i64 0, .int .i64 0] t)) w.heap.size 2 1 := room_alloc_new w _ _ _ (by simp)
  have C0 : CellsAt (w.alloc (.cells #[.int .i64 0, .int .i64 0] t)) w.heap.size 0 [.int .i64 0, .int .i64 0] := cells_alloc_new w _ _
  have h1 : ∀ u : Value, u ∈ [Value.int .i64 a, .int .i64 b] → u.oneCell' = true := fun u hu => by
    simp at hu; rcases hu with rfl | rfl <;> rfl
  have hs := run_storeVar (v := .agg #[.int .i64 a, .int .i64 b]) hq R0 (by rw [h2]; rfl) (by show 0 + 2 ≤ 2; omega) h1
  have C1 := cells_setCells (o := 0) (vs := [.int .i64 a, .int .i64 b]) R0 C0 (Nat.zero_le _) (by simp)
  refine ⟨_, hs, ?_, ?_, fun k hk => ?_, ?_, ?_⟩
  · exact C1 0 _ rfl
  · exact C1 1 _ rfl
  · rw [heap_setCells_ne _ k (by omega)]; exact heap_alloc_lt w _ k hk
  · rw [size_setCells]; simp
  · exact (out_alloc w _).trans (out_setCells _ _ _ _)
theorem below_two {B : Nat} {w0 w W : World} {a b : Int} (h : Below B w0 w) (hB : B ≤ w.heap.size) (t : Two2 w W a b) : Below B w0 W :=
  ⟨t.out.1.trans h.os, t.out.2.1.trans h.tape, t.out.2.2.trans h.output, Nat.le_trans h.size t.size, fun k hk => (t.keep k (by omega)).trans (h.block k hk)⟩
def Pairs (w : World) (l : List (Int × Int)) (s : Value) : Prop := ∃ A c, s = .slice A l.length c ∧ (l ≠ [] → ∃ b o, A = some ⟨b, o, none⟩ ∧ b < w.heap.size ∧ ∀ i x y, l[i]? = some (x, y) → w.cell? ⟨b, o + i * 2, none⟩ = some (.int .i64 x) ∧ w.cell? ⟨b, o + i * 2 + 1, none⟩ = some (.int .i64 y))
theorem pairs_of {w : World} {B : Nat → Prop} {g : Nat → Gh} {l : List (Int × Int)} {s : Value} (h : RepV w B g (.sl 2 (l.map fun p => .ag [iI p.1, iI p.2])) s) (hB : ∀ b, B b → b < w.heap.size) : Pairs w l s := by
  obtain ⟨m, hm⟩ : ∃ m : List SV, m = l.map fun p => .ag [iI p.1, iI p.2] := ⟨_, rfl⟩
  have hml : m.length = l.length := by rw [hm, List.length_map]
  rw [← hm] at h
  cases h with
  | sl0 =>
    have : l = [] := List.map_eq_nil_iff.1 hm.symm
    subst this
    exact ⟨_, _, rfl, fun h => absurd rfl h⟩
  | sl a1 a2 a3 a4 a5 a6 =>
    rename_i vs b o c
    rw [hml]
    refine ⟨_, _, rfl, fun _ => ⟨b, o, rfl, hB _ a5, fun i x y hi => ?_⟩⟩
    have hx : m[i]? = some (.ag [iI x, iI y]) := by rw [hm, List.getElem?_map, hi]; rfl
    obtain ⟨v, hv, hr⟩ := RepL.get ⟨a1, a2⟩ hx
    obtain rfl := tw_rep hr
    have hc := flatV_elem a3 hv a4
    exact ⟨hc 0 _ rfl, by have := hc 1 _ rfl; exact this⟩
theorem pairs_ld {w W : World} {l : List (Int × Int)} {b o : Nat} {t : Nat} {q : TI} (hq : TiOk Tryz.prog t q) (h2 : q.size = 2) (ha : q.agg = true) (hcell : ∀ i x y, l[i]? = some (x, y) → w.cell? ⟨b, o + i * 2, none⟩ = some (.int .i64 x) ∧ w.cell? ⟨b, o + i * 2 + 1, none⟩ = some (.int .i64 y))
    (hb : W.heap[b]? = w.heap[b]?) {i : Nat} {x y : Int} (hi : l[i]? = some (x, y)) : (Instr.loadAt t (.pointer (some ⟨b, o + i * 2, none⟩))).run Tryz.prog W = .ok (.agg #[.int .i64 x, .int .i64 y]) W := by
  have hc := hcell i x y hi
  have hC : CellsAt W b (o + i * 2) [.int .i64 x, .int .i64 y] := fun k v hk => by
    rw [cell?_heap hb]
    match k with
    | 0 => cases hk; exact hc.1
    | 1 => cases hk; exact hc.2
    | k + 2 => cases hk
  have := (run_loadAt hq hC (by rw [h2]; exact Nat.le_refl _)).1 ha
  rw [h2] at this
  exact this
end Go.Proofs.YtebaiioejagfoaaGreatDoor
