/- The evaluator S and what it says of functions: V23, V24. -/
import Derived.Test.YtikennabfbkdhaaV21
/- Packages that can be in together. -/
namespace Go.Proofs.Ytikennabfbkdhaa
open Go
set_option linter.unusedVariables false
set_option linter.unusedSimpArgs false
set_option maxHeartbeats 4000000
def bearsP (s : List TPkg) (dn dl : Int) : Prop := ∃ p, p ∈ s ∧ (p.name = dn ∧ dl ≤ p.ver)
instance (s : List TPkg) (dn dl : Int) : Decidable (bearsP s dn dl) := by unfold bearsP; exact inferInstance
def ownedTo (s : List TPkg) (n : Nat) (x : Int) : Prop := ∃ j, j < n ∧ ∃ f, f ∈ (nth s j).files ∧ f.path = x
instance (s : List TPkg) (n : Nat) (x : Int) : Decidable (ownedTo s n x) := by unfold ownedTo; exact inferInstance
def depsAtP (s : List TPkg) (i : Nat) : Prop := ∀ j, j < (nth s i).deps.length → bearsP s (nth (nth s i).deps j).name (nth (nth s i).deps j).least
instance (s : List TPkg) (i : Nat) : Decidable (depsAtP s i) := by unfold depsAtP; exact inferInstance
def filesAtP (s : List TPkg) (i : Nat) : Prop := ∀ j, j < (nth s i).files.length → ¬ ownedTo s i (nth (nth s i).files j).path
instance (s : List TPkg) (i : Nat) : Decidable (filesAtP s i) := by unfold filesAtP; exact inferInstance
def oneAt (s : List TPkg) (i : Nat) : Prop := 0 < i → (nth s (i - 1)).name < (nth s i).name
instance (s : List TPkg) (i : Nat) : Decidable (oneAt s i) := by unfold oneAt; exact inferInstance
def oneOk (s : List TPkg) : Bool := decide (∀ i, i < s.length → oneAt s i)
def planAt (s : List TPkg) (i : Nat) : Prop := oneAt s i ∧ depsAtP s i ∧ filesAtP s i
instance (s : List TPkg) (i : Nat) : Decidable (planAt s i) := by unfold planAt; exact inferInstance
def plansAt (s : List TPkg) : Bool := decide (∀ i, i < s.length → planAt s i)
def planOk (s : List TPkg) : Bool := storeOk s && plansAt s
theorem planOk_iff {s : List TPkg} : planOk s = true ↔ storeOk s = true ∧ ∀ i, i < s.length → planAt s i := by simp [planOk, plansAt]
theorem owned_step {s : List TPkg} {i : Nat} {x : Int} : ownedTo s (i + 1) x ↔ ownedTo s i x ∨ ∃ f, f ∈ (nth s i).files ∧ f.path = x := by
  unfold ownedTo
  constructor
  · rintro ⟨j, hj, h⟩
    by_cases e : j = i
    · subst e; exact .inr h
    · exact .inl ⟨j, by omega, h⟩
  · rintro (⟨j, hj, h⟩ | h)
    · exact ⟨j, by omega, h⟩
    · exact ⟨i, by omega, h⟩
theorem s_bears1 (name ver : Int) (F : List TFile) (D : List TDep) (dn dl : Int) : Ex (fun m => callF prg m 89 [.ag [iI name, iI ver, .sl 2 (F.map eFile), .sl 2 (D.map eDep)], .ptr 0 0] [.box [iI dn, iI dl]]) (bB (decide (name = dn ∧ dl ≤ ver))) [.box [iI dn, iI dl]] := by
  refine ev_is.1 ?_
  (refine U89 (nl := 1) rfl ?_; unfold B89)
  repeat' (first | ((with_reducible refine eG ?_); first | (with_reducible first | refine ev_gtt ?_ | refine ev_gff ?_ | refine ev_gtf ?_ | refine ev_gft ?_ | refine ev_gu ?_) | refine ev_bd rfl ?_ | refine ev_bd0 rfl ?_ | ((with_reducible refine ev_gB ?_ ?_) <;> intro h)) | ((with_reducible refine eB ?_); first | ((with_reducible first | refine ev_geq ?_ ?_ | refine ev_eql ?_ ?_) <;> intro h <;> try (exfalso; omega)) | refine ev_bd rfl ?_ | refine ev_bd0 rfl ?_) | ((with_reducible refine eO ?_); first | refine ev_bd rfl ?_ | (refine ev_bdB rfl ?_ ?_ <;> intro h <;> try (exfalso; simp_all; done)) | refine ev_bd0 rfl ?_ | (refine ev_ldm rfl ?_ rfl ?_; (focus omega)) | (refine ev_ldmB rfl ?_ rfl ?_ ?_; (focus omega); (all_goals intro h))) | ((with_reducible refine eD ?_); first | refine ev_bd rfl ?_ | refine ev_bd0 rfl ?_ | ((with_reducible refine ev_pickB ?_ ?_) <;> intro h)) | refine ev_ret rfl ?_)
  all_goals (refine ⟨congrArg (fun b => SV.v (Value.bool b)) ?_, rfl⟩; first | (simp_all []; done) | (simp_all []; omega) | (simp [] at *; omega) | (simp []; omega) | grind [] | trace_state)
theorem s_IxPkg_L (s : List TPkg) (hs : s.length ≤ 2000000) (dn dl : Int) : ∀ i, i ≤ s.length → (∀ j, j < i → ¬ ((nth s j).name = dn ∧ dl ≤ (nth s j).ver)) → ∀ (k : Int) (c : Nat), k = i →
    Ev (fun n => L78_2 (callF prg n) (n + 1) 1 (n + 1 - c) (.sl 4 (s.map ePkg)) (.fn 89 [.ptr 0 0]) (iI s.length) (iI k) [.box [iI dn, iI dl]]) (fun y os => ∃ z : Int, y = iI z ∧ os = [.box [iI dn, iI dl]] ∧ (0 ≤ z ↔ bearsP s dn dl)) := by
  refine up_ind ?_
  intro i hi ih hp k c hk
  subst hk
  (refine UL78_2 ?_; unfold LB78_2)
  repeat' (first | ((with_reducible refine eB ?_); first | ((with_reducible refine ev_lss ?_ ?_) <;> intro h <;> try (exfalso; omega)) | ((with_reducible refine ev_add ?_ ?_); · omega) | refine ev_bd rfl ?_ | refine ev_bd0 rfl ?_) | ((with_reducible refine eI ?_); first | ((with_reducible refine ev_idxn ?_ ?_ ?_); (· rfl); · omega) | (refine ev_idxon rfl rfl ?_ ?_; (· first | omega | (simp only [List.length_cons, List.length_nil, List.length_map, List.length_append]; omega))) | (refine ev_idxfn rfl rfl ?_ ?_; (focus omega)) | ((with_reducible refine ev_idx ?_ ?_ ?_); (· rfl); · omega) | (refine ev_idxo rfl rfl ?_ ?_; (· first | omega | (simp only [List.length_cons, List.length_nil, List.length_map, List.length_append]; omega))) | (refine ev_idxf rfl rfl ?_ ?_; (focus omega)) | refine ev_bd rfl ?_ | refine ev_bd0 rfl ?_) | ((with_reducible refine eC ?_); first | ((refine ev_callD (s_bears1 _ _ _ _ _ _) rfl rfl ?_ rfl rfl ?_ ?_); (focus first | exact .inl rfl | exact .inr rfl | (refine .inr ?_; simp [flagC, ownF, hasSl3, hasSl1, SO.hasSl, List.all_map, flatSV, SV.cells, Function.comp_def]; done)); (all_goals (intro h)); (all_goals (try (exfalso; first | omega | exact h rfl | exact h ⟨rfl, rfl, rfl⟩))))) | (with_reducible refine ev_callee ?_) | ((with_reducible refine eK ?_); first | (with_reducible first | refine ev_ct ?_ | refine ev_cf ?_) | ((with_reducible refine ev_cond ?_ ?_) <;> intro h)) | ((with_reducible refine eO ?_); first | refine ev_bd rfl ?_ | (refine ev_bdB rfl ?_ ?_ <;> intro h <;> try (exfalso; simp_all; done)) | refine ev_bd0 rfl ?_ | (refine ev_ldm rfl ?_ rfl ?_; (focus omega)) | (refine ev_ldmB rfl ?_ rfl ?_ ?_; (focus omega); (all_goals intro h))) | ((with_reducible refine eD ?_); first | refine ev_bd rfl ?_ | refine ev_bd0 rfl ?_) | ((with_reducible refine ih ?_ (all_step hp ?_) _ _ ?_) <;> (first | omega | assumption | (simp only [*, List.map_append, List.length_append, List.length_cons, List.length_nil, List.map_cons, List.map_nil]; done) | (simp_all; done) | (simp_all; omega))) | refine ev_ret rfl ?_)
  · exact ⟨_, rfl, rfl, ⟨fun _ => ⟨_, nth_mem (l := s) (k := i) (by omega), h⟩, fun _ => by omega⟩⟩
  · refine ⟨_, rfl, rfl, ⟨fun h9 => by omega, fun h9 => ?_⟩⟩
    obtain ⟨q, hq, h8⟩ := h9
    obtain ⟨j, hj, rfl⟩ := mem_nth hq
    exact absurd h8 (hp j (by omega))
theorem s_IxPkg (s : List TPkg) (hs : s.length ≤ 2000000) (dn dl : Int) : ∃ z : Int, (0 ≤ z ↔ bearsP s dn dl) ∧ Ex (fun m => callF prg m 78 [.sl 4 (s.map ePkg), .fn 89 [.ptr 0 0]] [.box [iI dn, iI dl]]) (iI z) [.box [iI dn, iI dl]] := by
  have key : Ev (fun m => callF prg m 78 [.sl 4 (s.map ePkg), .fn 89 [.ptr 0 0]] [.box [iI dn, iI dl]]) (fun y os => ∃ z : Int, y = iI z ∧ os = [.box [iI dn, iI dl]] ∧ (0 ≤ z ↔ bearsP s dn dl)) := by
    (refine U78 (nl := 1) rfl ?_; unfold B78)
    repeat' (first | ((with_reducible refine eL ?_); first | ((with_reducible refine ev_lenm ?_ ?_); · rfl) | refine ev_lenom rfl rfl ?_ | refine ev_lenfm rfl rfl ?_ | refine ev_lenoc rfl rfl rfl ?_ | refine ev_lenc rfl rfl ?_ | refine ev_leno rfl rfl ?_ | refine ev_slen rfl ?_ | refine ev_bd rfl ?_ | refine ev_bd0 rfl ?_) | ((with_reducible refine eD ?_); first | refine ev_bd rfl ?_ | refine ev_bd0 rfl ?_) | ( exact s_IxPkg_L s hs dn dl 0 (by omega) (fun j hj => by omega) 0 0 rfl) | refine ev_ret rfl ?_)
  obtain ⟨_, _, ⟨z, rfl, rfl, hz⟩, he⟩ := key
  exact ⟨z, hz, he⟩
theorem s_CtPkg (s : List TPkg) (hs : s.length ≤ 2000000) (dn dl : Int) : Ex (fun m => callF prg m 62 [.sl 4 (s.map ePkg), .fn 89 [.ptr 0 0]] [.box [iI dn, iI dl]]) (bB (decide (bearsP s dn dl))) [.box [iI dn, iI dl]] := by
  refine ev_is.1 ?_
  (refine U62 (nl := 1) rfl ?_; unfold B62)
  repeat' (first | ((with_reducible refine eB ?_); first | ((with_reducible refine ev_geq ?_ ?_) <;> intro h <;> try (exfalso; omega)) | refine ev_bd rfl ?_ | refine ev_bd0 rfl ?_) | ((with_reducible refine eC ?_); first | ((refine ev_callN (s_IxPkg s hs dn dl) rfl rfl ?_ (fun _ => rfl) ?_); (· first | exact .inl rfl | exact .inr (fun _ => rfl)); (first | (have q0 := z3; clear q0; intro z4 hz4) | (have q0 := z2; clear q0; intro z3 hz3) | (have q0 := z; clear q0; intro z2 hz2) | (intro z hz)))) | ((with_reducible refine eD ?_); first | refine ev_bd rfl ?_ | refine ev_bd0 rfl ?_) | refine ev_ret rfl ?_)
  all_goals exact ⟨congrArg bB (by simp [← hz]; omega), rfl⟩
theorem s_bears (s : List TPkg) (hs : s.length ≤ 2000000) (dn dl : Int) : Ex (fun m => callF prg m 77 [.sl 4 (s.map ePkg), .ag [iI dn, iI dl]] []) (bB (decide (bearsP s dn dl))) [] := by
  refine ev_is.1 ?_
  (refine U77 (nl := 0) rfl ?_; unfold B77)
  repeat' (first | ((with_reducible refine eC ?_); first | ((refine ev_callD (s_CtPkg s hs dn dl) rfl rfl ?_ rfl rfl ?_ ?_); (focus first | exact .inl rfl | exact .inr rfl | (refine .inr ?_; simp [flagC, ownF, hasSl3, hasSl1, SO.hasSl, List.all_map, flatSV, SV.cells, Function.comp_def]; done)); (all_goals (intro h)); (all_goals (try (exfalso; first | omega | exact h rfl | exact h ⟨rfl, rfl, rfl⟩))))) | ((with_reducible refine eD ?_); first | refine ev_bd rfl ?_ | refine ev_bd0 rfl ?_) | refine ev_ret rfl ?_)
  all_goals exact ⟨congrArg bB (by simp [h]), rfl⟩
theorem s_PlanOk1 (s : List TPkg) (hs : s.length ≤ 2000000) (dn dl : Int) : Ex (fun m => callF prg m 76 [.ag [iI dn, iI dl], .ptr 0 0] [.box [.sl 4 (s.map ePkg)]]) (bB (decide (¬ bearsP s dn dl))) [.box [.sl 4 (s.map ePkg)]] := by
  refine ev_is.1 ?_
  (refine U76 (nl := 1) rfl ?_; unfold B76)
  repeat' (first | ((with_reducible refine eC ?_); first | ((refine ev_callD (s_bears s hs dn dl) rfl rfl ?_ rfl rfl ?_ ?_); (focus first | exact .inl rfl | exact .inr rfl | (refine .inr ?_; simp [flagC, ownF, hasSl3, hasSl1, SO.hasSl, List.all_map, flatSV, SV.cells, Function.comp_def]; done)); (all_goals (intro h)); (all_goals (try (exfalso; first | omega | exact h rfl | exact h ⟨rfl, rfl, rfl⟩))))) | ((with_reducible refine eO ?_); first | refine ev_bd rfl ?_ | (refine ev_bdB rfl ?_ ?_ <;> intro h <;> try (exfalso; simp_all; done)) | refine ev_bd0 rfl ?_ | (refine ev_ldm rfl ?_ rfl ?_; (focus omega)) | (refine ev_ldmB rfl ?_ rfl ?_ ?_; (focus omega); (all_goals intro h))) | ((with_reducible refine eD ?_); first | refine ev_bd rfl ?_ | refine ev_bd0 rfl ?_) | refine ev_ret rfl ?_)
  all_goals exact ⟨congrArg bB (by simp [h]), rfl⟩
theorem s_IxDep_L (s : List TPkg) (hs : s.length ≤ 2000000) (D : List TDep) (hD : D.length ≤ 2000000) : ∀ i, i ≤ D.length → (∀ j, j < i → bearsP s (nth D j).name (nth D j).least) → ∀ (k : Int) (c : Nat), k = i →
    Ev (fun n => L88_2 (callF prg n) (n + 1) 1 (n + 1 - c) (.sl 2 (D.map eDep)) (.fn 76 [.ptr 0 0]) (iI D.length) (iI k) [.box [.sl 4 (s.map ePkg)]]) (fun y os => ∃ z : Int, y = iI z ∧ os = [.box [.sl 4 (s.map ePkg)]] ∧ (0 ≤ z ↔ ¬ ∀ j, j < D.length → bearsP s (nth D j).name (nth D j).least)) := by
  refine up_ind ?_
  intro i hi ih hp k c hk
  subst hk
  (refine UL88_2 ?_; unfold LB88_2)
  repeat' (first | ((with_reducible refine eB ?_); first | ((with_reducible refine ev_lss ?_ ?_) <;> intro h <;> try (exfalso; omega)) | ((with_reducible refine ev_add ?_ ?_); · omega) | refine ev_bd rfl ?_ | refine ev_bd0 rfl ?_) | ((with_reducible refine eI ?_); first | ((with_reducible refine ev_idxn ?_ ?_ ?_); (· rfl); · omega) | (refine ev_idxon rfl rfl ?_ ?_; (· first | omega | (simp only [List.length_cons, List.length_nil, List.length_map, List.length_append]; omega))) | (refine ev_idxfn rfl rfl ?_ ?_; (focus omega)) | ((with_reducible refine ev_idx ?_ ?_ ?_); (· rfl); · omega) | (refine ev_idxo rfl rfl ?_ ?_; (· first | omega | (simp only [List.length_cons, List.length_nil, List.length_map, List.length_append]; omega))) | (refine ev_idxf rfl rfl ?_ ?_; (focus omega)) | refine ev_bd rfl ?_ | refine ev_bd0 rfl ?_) | ((with_reducible refine eC ?_); first | ((refine ev_callD (s_PlanOk1 s hs _ _) rfl rfl ?_ rfl rfl ?_ ?_); (focus first | exact .inl rfl | exact .inr rfl | (refine .inr ?_; simp [flagC, ownF, hasSl3, hasSl1, SO.hasSl, List.all_map, flatSV, SV.cells, Function.comp_def]; done)); (all_goals (intro h)); (all_goals (try (exfalso; first | omega | exact h rfl | exact h ⟨rfl, rfl, rfl⟩))))) | (with_reducible refine ev_callee ?_) | ((with_reducible refine eK ?_); first | (with_reducible first | refine ev_ct ?_ | refine ev_cf ?_) | ((with_reducible refine ev_cond ?_ ?_) <;> intro h)) | ((with_reducible refine eO ?_); first | refine ev_bd rfl ?_ | (refine ev_bdB rfl ?_ ?_ <;> intro h <;> try (exfalso; simp_all; done)) | refine ev_bd0 rfl ?_ | (refine ev_ldm rfl ?_ rfl ?_; (focus omega)) | (refine ev_ldmB rfl ?_ rfl ?_ ?_; (focus omega); (all_goals intro h))) | ((with_reducible refine eD ?_); first | refine ev_bd rfl ?_ | refine ev_bd0 rfl ?_) | ((with_reducible refine ih ?_ (all_step hp ?_) _ _ ?_) <;> (first | omega | assumption | ((exact Decidable.not_not.1 h)) | (simp only [*, List.map_append, List.length_append, List.length_cons, List.length_nil, List.map_cons, List.map_nil]; done) | (simp_all; done) | (simp_all; omega))) | refine ev_ret rfl ?_)
  · exact ⟨_, rfl, rfl, ⟨fun _ h9 => h (h9 i (by omega)), fun _ => by omega⟩⟩
  · exact ⟨_, rfl, rfl, ⟨fun h9 => by omega, fun h9 => absurd (fun j hj => hp j (by omega)) h9⟩⟩
theorem s_IxDep (s : List TPkg) (hs : s.length ≤ 2000000) (D : List TDep) (hD : D.length ≤ 2000000) : ∃ z : Int, (0 ≤ z ↔ ¬ ∀ j, j < D.length → bearsP s (nth D j).name (nth D j).least) ∧ Ex (fun m => callF prg m 88 [.sl 2 (D.map eDep), .fn 76 [.ptr 0 0]] [.box [.sl 4 (s.map ePkg)]]) (iI z) [.box [.sl 4 (s.map ePkg)]] := by
  have key : Ev (fun m => callF prg m 88 [.sl 2 (D.map eDep), .fn 76 [.ptr 0 0]] [.box [.sl 4 (s.map ePkg)]]) (fun y os => ∃ z : Int, y = iI z ∧ os = [.box [.sl 4 (s.map ePkg)]] ∧ (0 ≤ z ↔ ¬ ∀ j, j < D.length → bearsP s (nth D j).name (nth D j).least)) := by
    (refine U88 (nl := 1) rfl ?_; unfold B88)
    repeat' (first | ((with_reducible refine eL ?_); first | ((with_reducible refine ev_lenm ?_ ?_); · rfl) | refine ev_lenom rfl rfl ?_ | refine ev_lenfm rfl rfl ?_ | refine ev_lenoc rfl rfl rfl ?_ | refine ev_lenc rfl rfl ?_ | refine ev_leno rfl rfl ?_ | refine ev_slen rfl ?_ | refine ev_bd rfl ?_ | refine ev_bd0 rfl ?_) | ((with_reducible refine eD ?_); first | refine ev_bd rfl ?_ | refine ev_bd0 rfl ?_) | ( exact s_IxDep_L s hs D hD 0 (by omega) (fun j hj => by omega) 0 0 rfl) | refine ev_ret rfl ?_)
  obtain ⟨_, _, ⟨z, rfl, rfl, hz⟩, he⟩ := key
  exact ⟨z, hz, he⟩
theorem s_CtDep (s : List TPkg) (hs : s.length ≤ 2000000) (D : List TDep) (hD : D.length ≤ 2000000) : Ex (fun m => callF prg m 75 [.sl 2 (D.map eDep), .fn 76 [.ptr 0 0]] [.box [.sl 4 (s.map ePkg)]]) (bB (decide (¬ ∀ j, j < D.length → bearsP s (nth D j).name (nth D j).least))) [.box [.sl 4 (s.map ePkg)]] := by
  refine ev_is.1 ?_
  (refine U75 (nl := 1) rfl ?_; unfold B75)
  repeat' (first | ((with_reducible refine eB ?_); first | ((with_reducible refine ev_geq ?_ ?_) <;> intro h <;> try (exfalso; omega)) | refine ev_bd rfl ?_ | refine ev_bd0 rfl ?_) | ((with_reducible refine eC ?_); first | ((refine ev_callN (s_IxDep s hs D hD) rfl rfl ?_ (fun _ => rfl) ?_); (· first | exact .inl rfl | exact .inr (fun _ => rfl)); (first | (have q0 := z3; clear q0; intro z4 hz4) | (have q0 := z2; clear q0; intro z3 hz3) | (have q0 := z; clear q0; intro z2 hz2) | (intro z hz)))) | ((with_reducible refine eD ?_); first | refine ev_bd rfl ?_ | refine ev_bd0 rfl ?_) | refine ev_ret rfl ?_)
  · exact ⟨congrArg bB (decide_eq_true (hz.1 h)).symm, rfl⟩
  · exact ⟨congrArg bB (decide_eq_false fun h9 => h (hz.2 h9)).symm, rfl⟩
end Go.Proofs.Ytikennabfbkdhaa

/- Packages that can be in together: the program's function. -/
namespace Go.Proofs.Ytikennabfbkdhaa
open Go
set_option linter.unusedVariables false
set_option linter.unusedSimpArgs false
set_option maxHeartbeats 4000000
theorem pkg_files {p : TPkg} (h : pkgOk p = true) : p.files.length ≤ 2 ∧ ∀ i, i < p.files.length → fileAt p.files i := by
  obtain ⟨-, -, h3, -⟩ := pkgOk_iff.1 h
  simp only [filesOk, filesAt, Bool.and_eq_true, decide_eq_true_eq] at h3
  exact h3
theorem files_grow {p : TPkg} (h : pkgOk p = true) : ∀ j i, i < j → j < p.files.length → (nth p.files i).path < (nth p.files j).path := by
  obtain ⟨-, hf⟩ := pkg_files h
  intro j
  induction j with
  | zero => intro i hi; omega
  | succ j ih =>
    intro i hi hj
    have h1 := (hf (j + 1) hj).2.2 (by omega)
    simp only [Nat.add_sub_cancel] at h1
    by_cases e : i = j
    · subst e; exact h1
    · have := ih i (by omega) (by omega); omega
def sel6 (t0 t1 t2 t3 t4 t5 : Bool) (x : Int) : Bool := if x = 0 then t0 else if x = 1 then t1 else if x = 2 then t2 else if x = 3 then t3 else if x = 4 then t4 else t5
def usedAt (s : List TPkg) (i k : Nat) (x : Int) : Prop := ownedTo s i x ∨ ∃ j, j < k ∧ (nth (nth s i).files j).path = x
def Tk (s : List TPkg) (i k : Nat) (t0 t1 t2 t3 t4 t5 : Bool) : Prop := ∀ x, 0 ≤ x → x ≤ 5 → (sel6 t0 t1 t2 t3 t4 t5 x = true ↔ usedAt s i k x)
theorem used_step {s : List TPkg} {i k : Nat} {x : Int} : usedAt s i (k + 1) x ↔ usedAt s i k x ∨ (nth (nth s i).files k).path = x := by
  unfold usedAt
  constructor
  · rintro (h | ⟨j, hj, h⟩)
    · exact .inl (.inl h)
    · by_cases e : j = k
      · subst e; exact .inr h
      · exact .inl (.inr ⟨j, by omega, h⟩)
  · rintro ((h | ⟨j, hj, h⟩) | h)
    · exact .inl h
    · exact .inr ⟨j, by omega, h⟩
    · exact .inr ⟨k, by omega, h⟩
theorem used_end {s : List TPkg} {i : Nat} {x : Int} : usedAt s i (nth s i).files.length x ↔ usedAt s (i + 1) 0 x := by
  unfold usedAt
  rw [owned_step]
  constructor
  · rintro (h | ⟨j, hj, h⟩)
    · exact .inl (.inl h)
    · exact .inl (.inr ⟨_, nth_mem hj, h⟩)
  · rintro ((h | ⟨f, hf, h⟩) | ⟨j, hj, -⟩)
    · exact .inl h
    · obtain ⟨j, hj, rfl⟩ := mem_nth hf
      exact .inr ⟨j, hj, h⟩
    · omega
theorem s_PlanOkI_L10 (s : List TPkg) (hs : s.length ≤ 2000000) (hp0 : PL s) {Q : SV → List SO → Prop} (m5 : Nat → Nat) (i : Nat) (hi : i < s.length) (hpk : pkgOk (nth s i) = true)
    (hq : filesAtP s i → ∀ t0 t1 t2 t3 t4 t5, Tk s (i + 1) 0 t0 t1 t2 t3 t4 t5 → Ev (fun n => L57_5 (callF prg n) (n + 1) 0 (m5 n) (.ptr 0 0) (.ptr 1 0) (.sl 4 (s.map ePkg)) (iI s.length) (iI ((i : Int) + 1)) [.box [.sl 4 (s.map ePkg)], .box [bB t0, bB t1, bB t2, bB t3, bB t4, bB t5]]) Q) (hn : ¬ filesAtP s i → Q (bB false) []) :
    ∀ j, j ≤ (nth s i).files.length → (∀ k, k < j → ¬ ownedTo s i (nth (nth s i).files k).path) → ∀ (t0 t1 t2 t3 t4 t5 : Bool), Tk s i j t0 t1 t2 t3 t4 t5 → ∀ (k : Int) (c : Nat), k = j →
    Ev (fun n => G57_10 (callF prg n) (n + 1) 0 (m5 n) (n + 1 - c) [.ptr 0 0, .ptr 1 0, .sl 4 (s.map ePkg), iI s.length, iI i, .sl 2 ((nth s i).files.map eFile), iI (nth s i).files.length, iI k] [.box [.sl 4 (s.map ePkg)], .box [bB t0, bB t1, bB t2, bB t3, bB t4, bB t5]]) Q := by
  have hpi := hp0 i
  have hfa := (pkg_files hpk).2
  refine up_ind ?_
  intro j hj ih hp t0 t1 t2 t3 t4 t5 ht k c hk
  subst hk
  have h6 : j < (nth s i).files.length → (nth (nth s i).files j).path = 0 ∨ (nth (nth s i).files j).path = 1 ∨ (nth (nth s i).files j).path = 2 ∨ (nth (nth s i).files j).path = 3 ∨ (nth (nth s i).files j).path = 4 ∨ (nth (nth s i).files j).path = 5 := fun h => by
    have := hfa j h; unfold fileAt at this; omega
  have hno : ∀ x : Int, (nth (nth s i).files j).path = x → j < (nth s i).files.length → ¬ usedAt s i j x → ¬ ownedTo s i (nth (nth s i).files j).path := fun x e _ h h9 => h (.inl (e ▸ h9))
  have hyes : ∀ x : Int, (nth (nth s i).files j).path = x → j < (nth s i).files.length → usedAt s i j x → ¬ filesAtP s i := fun x e hj2 h h9 => by
    rcases h with h | ⟨y, hy, h⟩
    · exact h9 j hj2 (e ▸ h)
    · have := files_grow hpk j y hy hj2; omega
  (refine UG57_10 _ ?_; unfold GB57_10)
  repeat' (first | ( ((with_reducible refine eO ?_); (refine ev_bdB rfl ?_ ?_ <;> intro h))) | ((with_reducible refine eB ?_); first | ((with_reducible refine ev_lss ?_ ?_) <;> intro h <;> try (exfalso; omega)) | ((with_reducible refine ev_add ?_ ?_); · omega) | refine ev_bd rfl ?_ | refine ev_bd0 rfl ?_) | ((with_reducible refine eI ?_); first | ((with_reducible refine ev_idxn ?_ ?_ ?_); (· rfl); · omega) | (refine ev_idxon rfl rfl ?_ ?_; (· first | omega | (simp only [List.length_cons, List.length_nil, List.length_map, List.length_append]; omega))) | (refine ev_idxfn rfl rfl ?_ ?_; (focus omega)) | ((with_reducible refine ev_idx ?_ ?_ ?_); (· rfl); · omega) | ( (rcases h6 (by omega) with e6 | e6 | e6 | e6 | e6 | e6 <;> (rw [e6]; refine ev_bd rfl ?_))) | (refine ev_idxo rfl rfl ?_ ?_; (· first | omega | (simp only [List.length_cons, List.length_nil, List.length_map, List.length_append]; omega))) | (refine ev_idxf rfl rfl ?_ ?_; (focus omega)) | refine ev_bd rfl ?_ | refine ev_bd0 rfl ?_) | ((with_reducible refine eK ?_); first | (with_reducible first | refine ev_ct ?_ | refine ev_cf ?_) | ((with_reducible refine ev_cond ?_ ?_) <;> intro h)) | ((with_reducible refine eO ?_); first | refine ev_bd rfl ?_ | (refine ev_bdB rfl ?_ ?_ <;> intro h <;> try (exfalso; simp_all; done)) | refine ev_bd0 rfl ?_ | (refine ev_ldm rfl ?_ rfl ?_; (focus omega)) | (refine ev_ldmB rfl ?_ rfl ?_ ?_; (focus omega); (all_goals intro h))) | ((with_reducible refine eD ?_); first | refine ev_bd rfl ?_ | refine ev_bd0 rfl ?_) | ((with_reducible refine eH ?_); first | refine ev_gcB rfl ?_) | (with_reducible first | refine UL57_10 ?_ | refine VL57_10 ?_) | ((with_reducible refine ih ?_ (all_step hp ?_) _ _ _ _ _ _ ?_ _ _ ?_) <;> (first | omega | assumption | ((first | (exact hno _ e6 (by omega) fun h9 => by have h8 := (ht _ (by omega) (by omega)).2 h9; simp [sel6] at h8; simp_all) | (intro x hx1 hx2; rw [used_step, ← ht x hx1 hx2, e6]; (obtain rfl | rfl | rfl | rfl | rfl | rfl : x = 0 ∨ x = 1 ∨ x = 2 ∨ x = 3 ∨ x = 4 ∨ x = 5 := by omega) <;> simp [sel6]))) | (simp only [*, List.map_append, List.length_append, List.length_cons, List.length_nil, List.map_cons, List.map_nil]; done) | (simp_all; done) | (simp_all; omega))) | ( exact hq (fun y hy => hp y (by omega)) _ _ _ _ _ _ (by (intro x hx1 hx2); (rw [ht x hx1 hx2, ← used_end]); (rw [show j = (nth s i).files.length by omega]))) | refine ev_ret rfl ?_)
  all_goals first
    | exact hn (hyes _ e6 (by omega) ((ht _ (by omega) (by omega)).1 (by simpa [sel6] using h)))
    | trace_state
theorem planAt_mk {s : List TPkg} {i : Nat} (a : oneAt s i) (b : depsAtP s i) (c : filesAtP s i) : planAt s i := ⟨a, b, c⟩
theorem s_PlanOkI_L5 (s : List TPkg) (hs : s.length ≤ 2000000) (hp0 : PL s) (hok : storeOk s = true) : ∀ i, i ≤ s.length → (∀ j, j < i → planAt s j) → ∀ (t0 t1 t2 t3 t4 t5 : Bool), Tk s i 0 t0 t1 t2 t3 t4 t5 → ∀ (k : Int) (c : Nat), k = i →
    Ev (fun n => G57_5 (callF prg n) (n + 1) 0 (n + 1 - c) [.ptr 0 0, .ptr 1 0, .sl 4 (s.map ePkg), iI s.length, iI k] [.box [.sl 4 (s.map ePkg)], .box [bB t0, bB t1, bB t2, bB t3, bB t4, bB t5]]) (Is (bB (planOk s)) []) := by
  refine up_ind ?_
  intro i hi ih hp t0 t1 t2 t3 t4 t5 ht k c hk
  subst hk
  have hpi := hp0 i
  have hnext : i < s.length → oneAt s i → depsAtP s i → filesAtP s i → ∀ u0 u1 u2 u3 u4 u5, Tk s (i + 1) 0 u0 u1 u2 u3 u4 u5 → ∀ c, Ev (fun n => L57_5 (callF prg n) (n + 1) 0 (n + 1 - c) (.ptr 0 0) (.ptr 1 0) (.sl 4 (s.map ePkg)) (iI s.length) (iI ((i : Int) + 1)) [.box [.sl 4 (s.map ePkg)], .box [bB u0, bB u1, bB u2, bB u3, bB u4, bB u5]]) (Is (bB (planOk s)) []) := by
    intro hi2 ho hd hf u0 u1 u2 u3 u4 u5 hu c
    repeat' (first | ((with_reducible refine eG ?_); first | (with_reducible first | refine ev_gtt ?_ | refine ev_gff ?_ | refine ev_gtf ?_ | refine ev_gft ?_ | refine ev_gu ?_) | refine ev_bd rfl ?_ | refine ev_bd0 rfl ?_ | ((with_reducible refine ev_gB ?_ ?_) <;> intro h)) | ((with_reducible refine eB ?_); first | ((with_reducible first | refine ev_lss ?_ ?_ | refine ev_leq ?_ ?_ | refine ev_gtr ?_ ?_ | refine ev_geq ?_ ?_ | refine ev_eql ?_ ?_ | refine ev_neq ?_ ?_) <;> intro h <;> try (exfalso; omega)) | ((with_reducible first | refine ev_add ?_ ?_ | refine ev_sub ?_ ?_ | refine ev_mul ?_ ?_); · omega) | ((with_reducible refine ev_quo ?_ ?_ ?_); (· omega); (· omega); intro x hx hx0 hx1) | ((with_reducible refine ev_rem ?_ ?_); (· omega); intro x hx hx0 hx1) | ((with_reducible first | refine ev_eql3 ?_ ?_ ?_ | refine ev_neq3 ?_ ?_ ?_ | refine ev_eql2 ?_ ?_ ?_ | refine ev_neq2 ?_ ?_ ?_); (· rfl); all_goals intro h) | refine ev_bd rfl ?_ | refine ev_bd0 rfl ?_) | ((with_reducible refine eL ?_); first | ((with_reducible refine ev_lenm ?_ ?_); · rfl) | refine ev_lenom rfl rfl ?_ | refine ev_lenfm rfl rfl ?_ | refine ev_lenoc rfl rfl rfl ?_ | refine ev_lenc rfl rfl ?_ | refine ev_leno rfl rfl ?_ | refine ev_slen rfl ?_ | refine ev_bd rfl ?_ | refine ev_bd0 rfl ?_) | ((with_reducible refine eI ?_); first | ((with_reducible refine ev_idxn ?_ ?_ ?_); (· rfl); · omega) | (refine ev_idxon rfl rfl ?_ ?_; (· first | omega | (simp only [List.length_cons, List.length_nil, List.length_map, List.length_append]; omega))) | (refine ev_idxfn rfl rfl ?_ ?_; (focus omega)) | ((with_reducible refine ev_idx ?_ ?_ ?_); (· rfl); · omega) | (refine ev_idxo rfl rfl ?_ ?_; (· first | omega | (simp only [List.length_cons, List.length_nil, List.length_map, List.length_append]; omega))) | (refine ev_idxf rfl rfl ?_ ?_; (focus omega)) | refine ev_bd rfl ?_ | refine ev_bd0 rfl ?_) | ((with_reducible refine eS ?_); first | ((with_reducible first | refine ev_slh ?_ ?_ ?_ | refine ev_sll ?_ ?_ ?_); (· rfl); · omega) | ((first | refine ev_slvh rfl rfl ?_ ?_ | refine ev_slvl rfl rfl ?_ ?_); (· first | omega | (simp only [List.length_cons, List.length_nil, List.length_map, List.length_append]; omega))) | refine ev_bd rfl ?_ | refine ev_bd0 rfl ?_) | ((with_reducible refine eC ?_); first | fail) | (with_reducible refine ev_callee ?_) | ((with_reducible refine eA ?_); first | (refine ev_app rfl rfl rfl rfl rfl ?_ ?_; · first | decide | (simp only [List.length_append, List.length_cons, List.length_nil, List.length_map, List.length_take, List.length_drop]; omega))) | ((with_reducible refine eV ?_); first | ((with_reducible refine ev_conv64 ?_ ?_ ?_ ?_); (· rfl); (· rfl); · omega) | refine ev_bd rfl ?_ | refine ev_bd0 rfl ?_) | ((with_reducible refine eK ?_); first | (with_reducible first | refine ev_ct ?_ | refine ev_cf ?_) | ((with_reducible refine ev_cond ?_ ?_) <;> intro h)) | ((with_reducible refine eO ?_); first | refine ev_bd rfl ?_ | (refine ev_bdB rfl ?_ ?_ <;> intro h <;> try (exfalso; simp_all; done)) | refine ev_bd0 rfl ?_ | (refine ev_ldm rfl ?_ rfl ?_; (focus omega)) | (refine ev_ldmB rfl ?_ rfl ?_ ?_; (focus omega); (all_goals intro h)) | (refine ev_ldz rfl rfl rfl ?_ ?_ ?_; (· simp); (· first | omega | (simp only [List.length_cons, List.length_nil, List.length_map, List.length_append]; omega)); intro w)) | ((with_reducible refine eD ?_); first | refine ev_bd rfl ?_ | refine ev_bd0 rfl ?_ | ((with_reducible refine ev_pickB ?_ ?_) <;> intro h)) | ((with_reducible refine ev_dchk ?_ ?_); · intro _; rfl) | ((with_reducible refine eH ?_); first | refine ev_gcB rfl ?_) | (with_reducible first | refine UL57_5 ?_ | refine VL57_5 ?_) | ((with_reducible refine ih ?_ (all_step hp (planAt_mk ho hd hf)) _ _ _ _ _ _ hu _ _ ?_) <;> (first | omega | assumption | (simp only [*, List.map_append, List.length_append, List.length_cons, List.length_nil, List.map_cons, List.map_nil]; done) | (simp_all; done) | (simp_all; omega))) | refine ev_ret rfl ?_)
  have hfail : i < s.length → ¬ planAt s i → Is (bB (planOk s)) [] (bB false) [] := fun hi2 h => by
    refine ⟨congrArg bB ?_, rfl⟩
    rw [planOk, hok, Bool.true_and]
    exact (all_false (i := i) hi2 h).symm
  have hone : i < s.length → (0 < i → (nth s (i - 1)).name ≠ (nth s i).name) → oneAt s i := fun hi2 h h0 => by
    have h1 := (storeOk_iff.1 hok i hi2).2 h0
    have h2 := h h0
    unfold pless at h1; omega
  (refine UG57_5 _ ?_; unfold GB57_5)
  repeat' (first | ((with_reducible refine eG ?_); first | (with_reducible first | refine ev_gtt ?_ | refine ev_gff ?_ | refine ev_gtf ?_ | refine ev_gft ?_ | refine ev_gu ?_) | refine ev_bd rfl ?_ | refine ev_bd0 rfl ?_ | ((with_reducible refine ev_gB ?_ ?_) <;> intro h)) | ((with_reducible refine eB ?_); first | ((with_reducible first | refine ev_lss ?_ ?_ | refine ev_gtr ?_ ?_ | refine ev_eql ?_ ?_) <;> intro h <;> try (exfalso; omega)) | ((with_reducible refine ev_sub ?_ ?_); · omega) | refine ev_bd rfl ?_ | refine ev_bd0 rfl ?_) | ((with_reducible refine eL ?_); first | ((with_reducible refine ev_lenm ?_ ?_); · rfl) | refine ev_lenom rfl rfl ?_ | refine ev_lenfm rfl rfl ?_ | refine ev_lenoc rfl rfl rfl ?_ | refine ev_lenc rfl rfl ?_ | refine ev_leno rfl rfl ?_ | refine ev_slen rfl ?_ | refine ev_bd rfl ?_ | refine ev_bd0 rfl ?_) | ((with_reducible refine eI ?_); first | ((with_reducible refine ev_idxn ?_ ?_ ?_); (· rfl); · omega) | (refine ev_idxon rfl rfl ?_ ?_; (· first | omega | (simp only [List.length_cons, List.length_nil, List.length_map, List.length_append]; omega))) | (refine ev_idxfn rfl rfl ?_ ?_; (focus omega)) | ((with_reducible refine ev_idx ?_ ?_ ?_); (· rfl); · omega) | (refine ev_idxo rfl rfl ?_ ?_; (· first | omega | (simp only [List.length_cons, List.length_nil, List.length_map, List.length_append]; omega))) | (refine ev_idxf rfl rfl ?_ ?_; (focus omega)) | refine ev_bd rfl ?_ | refine ev_bd0 rfl ?_) | ((with_reducible refine eC ?_); first | ((refine ev_callD (s_CtDep s hs _ hpi.2) rfl rfl ?_ rfl rfl ?_ ?_); (focus first | exact .inl rfl | exact .inr rfl | (refine .inr ?_; simp [flagC, ownF, hasSl3, hasSl1, SO.hasSl, List.all_map, flatSV, SV.cells, Function.comp_def]; done)); (all_goals (intro h)); (all_goals (try (exfalso; first | omega | exact h rfl | exact h ⟨rfl, rfl, rfl⟩))))) | ((with_reducible refine eK ?_); first | (with_reducible first | refine ev_ct ?_ | refine ev_cf ?_) | ((with_reducible refine ev_cond ?_ ?_) <;> intro h)) | ((with_reducible refine eO ?_); first | refine ev_bd rfl ?_ | (refine ev_bdB rfl ?_ ?_ <;> intro h <;> try (exfalso; simp_all; done)) | refine ev_bd0 rfl ?_ | (refine ev_ldm rfl ?_ rfl ?_; (focus omega)) | (refine ev_ldmB rfl ?_ rfl ?_ ?_; (focus omega); (all_goals intro h))) | ((with_reducible refine eD ?_); first | refine ev_bd rfl ?_ | refine ev_bd0 rfl ?_ | ((with_reducible refine ev_pickB ?_ ?_) <;> intro h)) | ((with_reducible refine eH ?_); first | refine ev_gcB rfl ?_) | (with_reducible first | refine UL57_10 ?_ | refine VL57_10 ?_) | refine ev_ret rfl ?_)
  all_goals first
    | exact hfail (by omega) fun h9 => by have := h9.1 (by omega); (try simp only [Int.toNat_natCast, tn_sub1, tn_add1] at *); omega
    | exact hfail (by omega) fun h9 => h h9.2.1
    | exact ⟨congrArg bB (by rw [planOk, hok, Bool.true_and]; exact (all_true hp (by omega)).symm), rfl⟩
    | skip
  all_goals exact s_PlanOkI_L10 s hs hp0 _ i (by omega) (storeOk_iff.1 hok i (by omega)).1 (fun hf u0 u1 u2 u3 u4 u5 hu => hnext (by omega) (hone (by omega) (by (try simp only [Int.toNat_natCast, tn_sub1, tn_add1] at *); omega)) (fun j hj => Decidable.not_not.1 h j hj) hf u0 u1 u2 u3 u4 u5 hu _) (fun h9 => hfail (by omega) fun h8 => h9 h8.2.2) 0 (by omega) (fun k hk => by omega) _ _ _ _ _ _ ht 0 _ rfl
theorem s_PlanOkI (s : List TPkg) (hs : s.length ≤ 2000000) (hp0 : PL s) : Ex (fun m => callF prg m 57 [.sl 4 (s.map ePkg)] []) (bB (planOk s)) [] := by
  refine ev_is.1 ?_
  (refine U57 (nl := 0) rfl ?_; unfold B57)
  repeat' (first | ((with_reducible refine eL ?_); first | ((with_reducible refine ev_lenm ?_ ?_); · rfl) | refine ev_lenom rfl rfl ?_ | refine ev_lenfm rfl rfl ?_ | refine ev_lenoc rfl rfl rfl ?_ | refine ev_lenc rfl rfl ?_ | refine ev_leno rfl rfl ?_ | refine ev_slen rfl ?_ | refine ev_bd rfl ?_ | refine ev_bd0 rfl ?_) | ((with_reducible refine eC ?_); first | ((refine ev_callB (s_StoreOkI s hs hp0) rfl rfl ?_ rfl rfl ?_ ?_); (focus first | exact .inl rfl | exact .inr rfl | (refine .inr ?_; simp [flagC, ownF, hasSl3, hasSl1, SO.hasSl, List.all_map, flatSV, SV.cells, Function.comp_def]; done)); (all_goals (intro h)); (all_goals (try (exfalso; simp_all; done))))) | ((with_reducible refine eK ?_); first | (with_reducible first | refine ev_ct ?_ | refine ev_cf ?_) | ((with_reducible refine ev_cond ?_ ?_) <;> intro h)) | ((with_reducible refine eO ?_); first | refine ev_bd rfl ?_ | (refine ev_bdB rfl ?_ ?_ <;> intro h <;> try (exfalso; simp_all; done)) | refine ev_bd0 rfl ?_ | (refine ev_ldm rfl ?_ rfl ?_; (focus omega)) | (refine ev_ldmB rfl ?_ rfl ?_ ?_; (focus omega); (all_goals intro h))) | ((with_reducible refine eD ?_); first | refine ev_bd rfl ?_ | refine ev_bd0 rfl ?_) | ((with_reducible refine eH ?_); first | refine ev_gcB rfl ?_) | (with_reducible first | refine UL57_5 ?_ | refine VL57_5 ?_) | ( exact s_PlanOkI_L5 s hs hp0 (by assumption) 0 (by omega) (fun j hj => by omega) _ _ _ _ _ _ (by (intro x h1 h2); (constructor); (· intro h9; simp [sel6] at h9); (· rintro (⟨j, hj, -⟩ | ⟨j, hj, -⟩) <;> omega)) 0 _ rfl) | refine ev_ret rfl ?_)
  all_goals first
    | (refine ⟨congrArg bB ?_, rfl⟩; simp [planOk, *]; done)
    | trace_state
end Go.Proofs.Ytikennabfbkdhaa
