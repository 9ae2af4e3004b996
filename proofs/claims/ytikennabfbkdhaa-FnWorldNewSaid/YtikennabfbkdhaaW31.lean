/- The evaluator S and what it says of functions: V44, W2, W3, W31. -/
import Derived.Test.YtikennabfbkdhaaV21
import Derived.Test.YtikennabfbkdhaaV28
import Derived.Test.YtikennabfbkdhaaV7
/- Disks: what is ok, what is true. -/
namespace Go.Proofs.Ytikennabfbkdhaa
open Go
set_option linter.unusedVariables false
set_option linter.unusedSimpArgs false
set_option maxHeartbeats 4000000
def fileNo (l : List Int) (i : Nat) : Prop := -2 ≤ nth l i ∧ nth l i ≤ 9
instance (l : List Int) (i : Nat) : Decidable (fileNo l i) := by unfold fileNo; exact inferInstance
def filesNo (l : List Int) : Bool := decide (∀ i, i < l.length → fileNo l i)
def diskOk (d : TDisk) : Bool := filesNo d.files && (decide (d.files.length = 6) && planOk d.db && planOk d.jour && (d.has || decide (d.jour = [])))
def diskTrue (d : TDisk) : Bool := diskOk d && !d.has && decide (d.files = filesP d.db)
theorem diskOk_iff {d : TDisk} : diskOk d = true ↔ filesNo d.files = true ∧ d.files.length = 6 ∧ planOk d.db = true ∧ planOk d.jour = true ∧ (d.has = true ∨ d.jour = []) := by
  simp [diskOk, and_assoc]
structure DLen (d : TDisk) : Prop where
  db : d.db.length ≤ 2000000
  dp : PL d.db
  fl : d.files.length ≤ 2000000
  jl : d.jour.length ≤ 2000000
  jp : PL d.jour
theorem s_DiskOk1 (x : Int) : Ex (fun m => callF prg m 55 [iI x] []) (bB (decide (¬ (-2 ≤ x ∧ x ≤ 9)))) [] := by
  refine ev_is.1 ?_
  (refine U55 (nl := 0) rfl ?_; unfold B55)
  repeat' (first | ((with_reducible refine eC ?_); first | ((refine ev_callD (s_in ..) rfl rfl ?_ rfl rfl ?_ ?_); (focus first | exact .inl rfl | exact .inr rfl | (refine .inr ?_; simp [flagC, ownF, hasSl3, hasSl1, SO.hasSl, List.all_map, flatSV, SV.cells, Function.comp_def]; done)); (all_goals (intro h)); (all_goals (try (exfalso; first | omega | exact h rfl | exact h ⟨rfl, rfl, rfl⟩))))) | ((with_reducible refine eD ?_); first | refine ev_bd rfl ?_ | refine ev_bd0 rfl ?_) | refine ev_ret rfl ?_)
  all_goals (refine ⟨congrArg (fun b => SV.v (Value.bool b)) ?_, rfl⟩; first | (simp_all []; done) | (simp_all []; omega) | (simp [] at *; omega) | (simp []; omega) | grind [] | trace_state)
theorem s_IxInt_L (l : List Int) (hl : l.length ≤ 2000000) : ∀ i, i ≤ l.length → (∀ j, j < i → fileNo l j) → ∀ (k : Int) (c : Nat), k = i →
    Ev (fun n => L74_2 (callF prg n) (n + 1) 0 (n + 1 - c) (.sl 1 (l.map iI)) (.fn 55 []) (iI l.length) (iI k) []) (fun y os => ∃ z : Int, y = iI z ∧ os = [] ∧ (0 ≤ z ↔ ¬ filesNo l = true)) := by
  refine up_ind ?_
  intro i hi ih hp k c hk
  subst hk
  (refine UL74_2 ?_; unfold LB74_2)
  repeat' (first | ((with_reducible refine eB ?_); first | ((with_reducible refine ev_lss ?_ ?_) <;> intro h <;> try (exfalso; omega)) | ((with_reducible refine ev_add ?_ ?_); · omega) | refine ev_bd rfl ?_ | refine ev_bd0 rfl ?_) | ((with_reducible refine eI ?_); first | ((with_reducible refine ev_idxn ?_ ?_ ?_); (· rfl); · omega) | (refine ev_idxon rfl rfl ?_ ?_; (· first | omega | (simp only [List.length_cons, List.length_nil, List.length_map, List.length_append]; omega))) | (refine ev_idxfn rfl rfl ?_ ?_; (focus omega)) | ((with_reducible refine ev_idx ?_ ?_ ?_); (· rfl); · omega) | (refine ev_idxo rfl rfl ?_ ?_; (· first | omega | (simp only [List.length_cons, List.length_nil, List.length_map, List.length_append]; omega))) | (refine ev_idxf rfl rfl ?_ ?_; (focus omega)) | refine ev_bd rfl ?_ | refine ev_bd0 rfl ?_) | ((with_reducible refine eC ?_); first | ((refine ev_callD (s_DiskOk1 _) rfl rfl ?_ rfl rfl ?_ ?_); (focus first | exact .inl rfl | exact .inr rfl | (refine .inr ?_; simp [flagC, ownF, hasSl3, hasSl1, SO.hasSl, List.all_map, flatSV, SV.cells, Function.comp_def]; done)); (all_goals (intro h)); (all_goals (try (exfalso; first | omega | exact h rfl | exact h ⟨rfl, rfl, rfl⟩))))) | (with_reducible refine ev_callee ?_) | ((with_reducible refine eK ?_); first | (with_reducible first | refine ev_ct ?_ | refine ev_cf ?_) | ((with_reducible refine ev_cond ?_ ?_) <;> intro h)) | ((with_reducible refine eO ?_); first | refine ev_bd rfl ?_ | (refine ev_bdB rfl ?_ ?_ <;> intro h <;> try (exfalso; simp_all; done)) | refine ev_bd0 rfl ?_ | (refine ev_ldm rfl ?_ rfl ?_; (focus omega)) | (refine ev_ldmB rfl ?_ rfl ?_ ?_; (focus omega); (all_goals intro h))) | ((with_reducible refine eD ?_); first | refine ev_bd rfl ?_ | refine ev_bd0 rfl ?_) | ((with_reducible refine ih ?_ (all_step hp ?_) _ _ ?_) <;> (first | omega | assumption | ((exact Decidable.not_not.1 h)) | (simp only [*, List.map_append, List.length_append, List.length_cons, List.length_nil, List.map_cons, List.map_nil]; done) | (simp_all; done) | (simp_all; omega))) | refine ev_ret rfl ?_)
  · exact ⟨_, rfl, rfl, ⟨fun _ h9 => h (of_decide_eq_true h9 i (by omega)), fun _ => by omega⟩⟩
  · exact ⟨_, rfl, rfl, ⟨fun h9 => by omega, fun h9 => absurd (all_true hp (by omega)) h9⟩⟩
theorem s_IxInt (l : List Int) (hl : l.length ≤ 2000000) : ∃ z : Int, (0 ≤ z ↔ ¬ filesNo l = true) ∧ Ex (fun m => callF prg m 74 [.sl 1 (l.map iI), .fn 55 []] []) (iI z) [] := by
  have key : Ev (fun m => callF prg m 74 [.sl 1 (l.map iI), .fn 55 []] []) (fun y os => ∃ z : Int, y = iI z ∧ os = [] ∧ (0 ≤ z ↔ ¬ filesNo l = true)) := by
    (refine U74 (nl := 0) rfl ?_; unfold B74)
    repeat' (first | ((with_reducible refine eL ?_); first | ((with_reducible refine ev_lenm ?_ ?_); · rfl) | refine ev_lenom rfl rfl ?_ | refine ev_lenfm rfl rfl ?_ | refine ev_lenoc rfl rfl rfl ?_ | refine ev_lenc rfl rfl ?_ | refine ev_leno rfl rfl ?_ | refine ev_slen rfl ?_ | refine ev_bd rfl ?_ | refine ev_bd0 rfl ?_) | ((with_reducible refine eD ?_); first | refine ev_bd rfl ?_ | refine ev_bd0 rfl ?_) | ( exact s_IxInt_L l hl 0 (by omega) (fun j hj => by omega) 0 0 rfl) | refine ev_ret rfl ?_)
  obtain ⟨_, _, ⟨z, rfl, rfl, hz⟩, he⟩ := key
  exact ⟨z, hz, he⟩
theorem s_CtInt (l : List Int) (hl : l.length ≤ 2000000) : Ex (fun m => callF prg m 56 [.sl 1 (l.map iI), .fn 55 []] []) (bB (decide (¬ filesNo l = true))) [] := by
  refine ev_is.1 ?_
  (refine U56 (nl := 0) rfl ?_; unfold B56)
  repeat' (first | ((with_reducible refine eB ?_); first | ((with_reducible refine ev_geq ?_ ?_) <;> intro h <;> try (exfalso; omega)) | refine ev_bd rfl ?_ | refine ev_bd0 rfl ?_) | ((with_reducible refine eC ?_); first | ((refine ev_callN (s_IxInt l hl) rfl rfl ?_ (fun _ => rfl) ?_); (· first | exact .inl rfl | exact .inr (fun _ => rfl)); (first | (have q0 := z3; clear q0; intro z4 hz4) | (have q0 := z2; clear q0; intro z3 hz3) | (have q0 := z; clear q0; intro z2 hz2) | (intro z hz)))) | ((with_reducible refine eD ?_); first | refine ev_bd rfl ?_ | refine ev_bd0 rfl ?_) | refine ev_ret rfl ?_)
  · exact ⟨congrArg bB (decide_eq_true (hz.1 h)).symm, rfl⟩
  · exact ⟨congrArg bB (decide_eq_false fun h9 => h (hz.2 h9)).symm, rfl⟩
theorem s_DiskOkI (d : TDisk) (h : DLen d) : Ex (fun m => callF prg m 40 [aDisk d] []) (bB (diskOk d)) [] := by
  refine ev_is.1 ?_
  obtain ⟨db, fs, has, jo⟩ := d
  obtain ⟨h1, h2, h3, h4, h5⟩ := h
  dsimp only at h1 h2 h3 h4 h5
  (refine U40 (nl := 0) rfl ?_; unfold B40)
  cases has
  all_goals repeat' (first | ((with_reducible refine eG ?_); first | (with_reducible first | refine ev_gtt ?_ | refine ev_gff ?_ | refine ev_gtf ?_ | refine ev_gft ?_ | refine ev_gu ?_) | refine ev_bd rfl ?_ | refine ev_bd0 rfl ?_ | ((with_reducible refine ev_gB ?_ ?_) <;> intro h)) | ((with_reducible refine eB ?_); first | ((with_reducible first | refine ev_eql ?_ ?_ | refine ev_neq ?_ ?_) <;> intro h <;> try (exfalso; omega)) | refine ev_bd rfl ?_ | refine ev_bd0 rfl ?_) | ((with_reducible refine eL ?_); first | ((with_reducible refine ev_lenm ?_ ?_); · rfl) | refine ev_lenom rfl rfl ?_ | refine ev_lenfm rfl rfl ?_ | refine ev_lenoc rfl rfl rfl ?_ | refine ev_lenc rfl rfl ?_ | refine ev_leno rfl rfl ?_ | refine ev_slen rfl ?_ | refine ev_bd rfl ?_ | refine ev_bd0 rfl ?_) | ((with_reducible refine eC ?_); first | ((refine ev_callD (s_CtInt fs h3) rfl rfl ?_ rfl rfl ?_ ?_); (focus first | exact .inl rfl | exact .inr rfl | (refine .inr ?_; simp [flagC, ownF, hasSl3, hasSl1, SO.hasSl, List.all_map, flatSV, SV.cells, Function.comp_def]; done)); (all_goals (intro h)); (all_goals (try (exfalso; first | omega | exact h rfl | exact h ⟨rfl, rfl, rfl⟩)))) | ((refine ev_callB (s_PlanOkI db h1 h2) rfl rfl ?_ rfl rfl ?_ ?_); (focus first | exact .inl rfl | exact .inr rfl | (refine .inr ?_; simp [flagC, ownF, hasSl3, hasSl1, SO.hasSl, List.all_map, flatSV, SV.cells, Function.comp_def]; done)); (all_goals (intro h)); (all_goals (try (exfalso; simp_all; done)))) | ((refine ev_callB (s_PlanOkI jo h4 h5) rfl rfl ?_ rfl rfl ?_ ?_); (focus first | exact .inl rfl | exact .inr rfl | (refine .inr ?_; simp [flagC, ownF, hasSl3, hasSl1, SO.hasSl, List.all_map, flatSV, SV.cells, Function.comp_def]; done)); (all_goals (intro h)); (all_goals (try (exfalso; simp_all; done))))) | ((with_reducible refine eK ?_); first | (with_reducible first | refine ev_ct ?_ | refine ev_cf ?_) | ((with_reducible refine ev_cond ?_ ?_) <;> intro h)) | ((with_reducible refine eO ?_); first | refine ev_bd rfl ?_ | (refine ev_bdB rfl ?_ ?_ <;> intro h <;> try (exfalso; simp_all; done)) | refine ev_bd0 rfl ?_ | (refine ev_ldm rfl ?_ rfl ?_; (focus omega)) | (refine ev_ldmB rfl ?_ rfl ?_ ?_; (focus omega); (all_goals intro h))) | ((with_reducible refine eD ?_); first | refine ev_bd rfl ?_ | refine ev_bd0 rfl ?_ | ((with_reducible refine ev_pickB ?_ ?_) <;> intro h)) | refine ev_ret rfl ?_)
  all_goals (refine ⟨congrArg bB (Eq.symm ?_), rfl⟩; unfold diskOk; dsimp only)
  all_goals first
    | (simp_all; done)
    | (simp_all; omega)
    | (have e9 : jo ≠ [] := (fun e => by subst e; simp at *); simp_all; done)
    | (have e9 : jo = [] := (List.length_eq_zero_iff.1 (by omega)); simp_all; done)
    | trace_state
theorem s_EqualInt_L (a b : List Int) (hl : a.length = b.length) (h47 : a.length ≤ 2000000) : ∀ i, i ≤ a.length → (∀ j, j < i → nth a j = nth b j) → ∀ (k : Int) (c : Nat), k = i →
    Ev (fun n => L42_4 (callF prg n) (n + 1) 0 (n + 1 - c) (.sl 1 (a.map iI)) (.sl 1 (b.map iI)) (iI a.length) (iI k) []) (Is (bB (decide (a = b))) []) := by
  refine up_ind ?_
  intro i hi ih hp k c hk
  subst hk
  (refine UL42_4 ?_; unfold LB42_4)
  repeat' (first | ((with_reducible refine eB ?_); first | ((with_reducible first | refine ev_lss ?_ ?_ | refine ev_neq ?_ ?_) <;> intro h <;> try (exfalso; omega)) | ((with_reducible refine ev_add ?_ ?_); · omega) | refine ev_bd rfl ?_ | refine ev_bd0 rfl ?_) | ((with_reducible refine eI ?_); first | ((with_reducible refine ev_idxn ?_ ?_ ?_); (· rfl); · omega) | (refine ev_idxon rfl rfl ?_ ?_; (· first | omega | (simp only [List.length_cons, List.length_nil, List.length_map, List.length_append]; omega))) | (refine ev_idxfn rfl rfl ?_ ?_; (focus omega)) | ((with_reducible refine ev_idx ?_ ?_ ?_); (· rfl); · omega) | (refine ev_idxo rfl rfl ?_ ?_; (· first | omega | (simp only [List.length_cons, List.length_nil, List.length_map, List.length_append]; omega))) | (refine ev_idxf rfl rfl ?_ ?_; (focus omega)) | refine ev_bd rfl ?_ | refine ev_bd0 rfl ?_) | ((with_reducible refine eK ?_); first | (with_reducible first | refine ev_ct ?_ | refine ev_cf ?_) | ((with_reducible refine ev_cond ?_ ?_) <;> intro h)) | ((with_reducible refine eO ?_); first | refine ev_bd rfl ?_ | (refine ev_bdB rfl ?_ ?_ <;> intro h <;> try (exfalso; simp_all; done)) | refine ev_bd0 rfl ?_ | (refine ev_ldm rfl ?_ rfl ?_; (focus omega)) | (refine ev_ldmB rfl ?_ rfl ?_ ?_; (focus omega); (all_goals intro h))) | ((with_reducible refine eD ?_); first | refine ev_bd rfl ?_ | refine ev_bd0 rfl ?_) | ((with_reducible refine ih ?_ (all_step hp ?_) _ _ ?_) <;> (first | omega | assumption | (simp only [*, List.map_append, List.length_append, List.length_cons, List.length_nil, List.map_cons, List.map_nil]; done) | (simp_all; done) | (simp_all; omega))) | refine ev_ret rfl ?_)
  · exact ⟨congrArg bB (Eq.symm (decide_eq_false fun e => h (by rw [e]))), rfl⟩
  · exact ⟨congrArg bB (Eq.symm (decide_eq_true (eq_of_nth hl fun j hj => hp j (by omega)))), rfl⟩
theorem s_EqualInt (a b : List Int) (h47 : a.length ≤ 2000000) : Ex (fun m => callF prg m 42 [.sl 1 (a.map iI), .sl 1 (b.map iI)] []) (bB (decide (a = b))) [] := by
  refine ev_is.1 ?_
  (refine U42 (nl := 0) rfl ?_; unfold B42)
  repeat' (first | ((with_reducible refine eB ?_); first | ((with_reducible refine ev_neq ?_ ?_) <;> intro h <;> try (exfalso; omega)) | refine ev_bd rfl ?_ | refine ev_bd0 rfl ?_) | ((with_reducible refine eL ?_); first | ((with_reducible refine ev_lenm ?_ ?_); · rfl) | refine ev_lenom rfl rfl ?_ | refine ev_lenfm rfl rfl ?_ | refine ev_lenoc rfl rfl rfl ?_ | refine ev_lenc rfl rfl ?_ | refine ev_leno rfl rfl ?_ | refine ev_slen rfl ?_ | refine ev_bd rfl ?_ | refine ev_bd0 rfl ?_) | ((with_reducible refine eK ?_); first | (with_reducible first | refine ev_ct ?_ | refine ev_cf ?_) | ((with_reducible refine ev_cond ?_ ?_) <;> intro h)) | ((with_reducible refine eD ?_); first | refine ev_bd rfl ?_ | refine ev_bd0 rfl ?_) | ( exact s_EqualInt_L a b (by omega) h47 0 (by omega) (fun j hj => by omega) 0 0 rfl) | refine ev_ret rfl ?_)
  all_goals (refine ⟨congrArg bB (Eq.symm (decide_eq_false fun e => ?_)), rfl⟩; subst e; omega)
theorem s_DiskTrueI (d : TDisk) (h : DLen d) : Ex (fun m => callF prg m 10 [aDisk d] []) (bB (diskTrue d)) [] := by
  refine ev_is.1 ?_
  have hD := s_DiskOkI d h
  cases hok : diskOk d with
  | true =>
    obtain ⟨a1, a2, a3, a4, a5⟩ := diskOk_iff.1 hok
    rw [hok] at hD
    have hS := s_EqualInt d.files (planFiles d.db) h.fl
    have hF := s_PlanFilesI d.db h.db h.dp
    rw [show planFiles d.db = filesP d.db from if_pos a3] at hS hF
    obtain ⟨db, fs, has, jo⟩ := d
    dsimp only at hS hF
    (refine U10 (nl := 0) rfl ?_; unfold B10)
    cases has
    all_goals repeat' (first | ((with_reducible refine eG ?_); first | (with_reducible first | refine ev_gtt ?_ | refine ev_gff ?_ | refine ev_gtf ?_ | refine ev_gft ?_ | refine ev_gu ?_) | refine ev_bd rfl ?_ | refine ev_bd0 rfl ?_ | ((with_reducible refine ev_gB ?_ ?_) <;> intro h)) | ((with_reducible refine eC ?_); first | ((refine ev_call (hD ..) rfl rfl ?_ rfl ?_); (focus first | exact .inl rfl | exact .inr rfl | (refine .inr ?_; simp [flagC, ownF, hasSl3, hasSl1, SO.hasSl, List.all_map, flatSV, SV.cells, Function.comp_def]; done))) | ((refine ev_call (hF ..) rfl rfl ?_ rfl ?_); (focus first | exact .inl rfl | exact .inr rfl | (refine .inr ?_; simp [flagC, ownF, hasSl3, hasSl1, SO.hasSl, List.all_map, flatSV, SV.cells, Function.comp_def]; done))) | ((refine ev_callD (hS ..) rfl rfl ?_ rfl rfl ?_ ?_); (focus first | exact .inl rfl | exact .inr rfl | (refine .inr ?_; simp [flagC, ownF, hasSl3, hasSl1, SO.hasSl, List.all_map, flatSV, SV.cells, Function.comp_def]; done)); (all_goals (intro h)); (all_goals (try (exfalso; first | omega | exact h rfl | exact h ⟨rfl, rfl, rfl⟩))))) | ((with_reducible refine eO ?_); first | refine ev_bd rfl ?_ | (refine ev_bdB rfl ?_ ?_ <;> intro h <;> try (exfalso; simp_all; done)) | refine ev_bd0 rfl ?_ | (refine ev_ldm rfl ?_ rfl ?_; (focus omega)) | (refine ev_ldmB rfl ?_ rfl ?_ ?_; (focus omega); (all_goals intro h))) | ((with_reducible refine eD ?_); first | refine ev_bd rfl ?_ | refine ev_bd0 rfl ?_ | ((with_reducible refine ev_pickB ?_ ?_) <;> intro h)) | ((with_reducible refine ev_dchk ?_ ?_); · intro _; rfl) | refine ev_ret rfl ?_)
    all_goals (refine ⟨congrArg bB (Eq.symm ?_), rfl⟩; unfold diskTrue; rw [hok]; simp_all; done)
  | false =>
    rw [hok] at hD
    (refine U10 (nl := 0) rfl ?_; unfold B10)
    repeat' (first | ((with_reducible refine eG ?_); first | (with_reducible first | refine ev_gtt ?_ | refine ev_gff ?_ | refine ev_gtf ?_ | refine ev_gft ?_ | refine ev_gu ?_) | refine ev_bd rfl ?_ | refine ev_bd0 rfl ?_ | ((with_reducible refine ev_gB ?_ ?_) <;> intro h)) | ((with_reducible refine eC ?_); first | ((refine ev_call (hD ..) rfl rfl ?_ rfl ?_); (focus first | exact .inl rfl | exact .inr rfl | (refine .inr ?_; simp [flagC, ownF, hasSl3, hasSl1, SO.hasSl, List.all_map, flatSV, SV.cells, Function.comp_def]; done)))) | ((with_reducible refine eO ?_); first | refine ev_bd rfl ?_ | (refine ev_bdB rfl ?_ ?_ <;> intro h <;> try (exfalso; simp_all; done)) | refine ev_bd0 rfl ?_ | (refine ev_ldm rfl ?_ rfl ?_; (focus omega)) | (refine ev_ldmB rfl ?_ rfl ?_ ?_; (focus omega); (all_goals intro h))) | ((with_reducible refine eD ?_); first | refine ev_bd rfl ?_ | refine ev_bd0 rfl ?_ | ((with_reducible refine ev_pickB ?_ ?_) <;> intro h)) | ((with_reducible refine ev_dchk ?_ ?_); · intro _; rfl) | refine ev_ret rfl ?_)
    all_goals (refine ⟨congrArg bB (Eq.symm ?_), rfl⟩; unfold diskTrue; rw [hok]; rfl)
abbrev rDisk (d : TDisk) : SV := .ag [.osl 0, .osl 1, bB d.has, .osl 2]
abbrev oDisk (d : TDisk) : List SO := [.arr false 4 (d.db.map ePkg), .arr false 1 (d.files.map iI), .arr false 4 (d.jour.map ePkg)]
def newDisk : TDisk := ⟨[], none6, false, []⟩
end Go.Proofs.Ytikennabfbkdhaa

/- Worlds: what is drawn, what is safe, new disks. -/
namespace Go.Proofs.Ytikennabfbkdhaa
open Go
set_option linter.unusedVariables false
set_option linter.unusedSimpArgs false
set_option maxHeartbeats 4000000
set_option maxRecDepth 100000
abbrev aSig (r : TRoot) (by_ : List Int) : SV := .ag [iI r.num, .sl 1 (r.keys.map iI), iI r.need, .sl 1 (by_.map iI)]
abbrev aWorld (r : TRoot) (bad : List Int) : SV := .ag [iI 0, .sl 4 [aSig r r.keys], .sl 4 [], .sl 4 [], .sl 1 (bad.map iI), iI r.num, .sl 1 (r.keys.map iI), iI r.need, bB false, iI 0, iI 0, .sl 3 [], .sl 4 [], .sl 4 [], .sl 1 (none6.map iI), bB false, .sl 4 []]
abbrev zWorld : SV := .ag [iI 0, .sl 4 [], .sl 4 [], .sl 4 [], .sl 1 [], iI 0, .sl 1 [], iI 0, bB false, iI 0, iI 0, .sl 3 [], .sl 4 [], .sl 4 [], .sl 1 [], bB false, .sl 4 []]
def worldOk (r : TRoot) (bad : List Int) : Prop := rootOk r.num r.keys r.need = true ∧ keysOk bad = true ∧ keysBoth r.keys bad < r.need ∧ r.num = 1
theorem rootOk_keys {num : Int} {keys : List Int} {need : Int} (h : rootOk num keys need = true) : keys.length ≤ 6 := keysOk_len (rootOk_iff.1 h).2.1
def QDW : SV → List SO → Prop := fun x os => ∃ (r : TRoot) (bad : List Int), x = .tup [aRoot r, .sl 1 (bad.map iI)] ∧ os = [] ∧ r.keys.length ≤ 8 ∧ bad.length ≤ 8
theorem s_DrawWorldNew (l : List Int) (hl : ∀ i, 0 ≤ nth l i ∧ nth l i < 256) : Ev (fun m => callF prg m 4 [.sl 1 (l.map bI)] []) QDW := by
  obtain ⟨b, hb, hopen⟩ := s_l6Open l hl
  (refine U4 (nl := 0) rfl ?_; unfold B4)
  repeat' (first | ((with_reducible refine eB ?_); first | ((with_reducible refine ev_eql ?_ ?_) <;> intro h <;> try (exfalso; omega)) | refine ev_bd rfl ?_ | refine ev_bd0 rfl ?_) | ((with_reducible refine eC ?_); first | ((refine ev_call (hopen ..) rfl rfl ?_ rfl ?_); (focus first | exact .inl rfl | exact .inr rfl | (refine .inr ?_; simp [flagC, ownF, hasSl3, hasSl1, SO.hasSl, List.all_map, flatSV, SV.cells, Function.comp_def]; done))) | ((refine ev_callE (s_l72Start hb (by omega)) rfl rfl ?_); ((rintro _ _ ⟨ks, need, bad, q, rfl, rfl, hk, hb8, hq1, hq2⟩) <;> (first | (refine ev_post ?_ rfl ?_; (focus first | exact .inl rfl | exact .inr rfl | (refine .inr ?_; simp [flagC, ownF, hasSl3, hasSl1, SO.hasSl, List.all_map, flatSV, SV.cells, Function.comp_def]; done))) | (refine ev_postF ?_ rfl ?_; (focus first | rfl | (simp [flagC, ownF, hasSl3, hasSl1, SO.hasSl, List.all_map, flatSV, SV.cells, Function.comp_def]; done)))))) | ((refine ev_callN (s_pick hb (by omega) _ (by omega)) rfl rfl ?_ (fun _ => rfl) ?_); (· first | exact .inl rfl | exact .inr (fun _ => rfl)); (first | (have q0 := z3; clear q0; intro z4 hz4) | (have q0 := z2; clear q0; intro z3 hz3) | (have q0 := z; clear q0; intro z2 hz2) | (intro z hz))) | ((refine ev_callE (s_l71Root hb (by omega)) rfl rfl ?_); ((rintro _ _ ⟨num', ks', need', q', rfl, rfl, hk', hq1', hq2'⟩) <;> (first | (refine ev_post ?_ rfl ?_; (focus first | exact .inl rfl | exact .inr rfl | (refine .inr ?_; simp [flagC, ownF, hasSl3, hasSl1, SO.hasSl, List.all_map, flatSV, SV.cells, Function.comp_def]; done))) | (refine ev_postF ?_ rfl ?_; (focus first | rfl | (simp [flagC, ownF, hasSl3, hasSl1, SO.hasSl, List.all_map, flatSV, SV.cells, Function.comp_def]; done)))))) | ((refine ev_callE (s_l71Keys hb (by omega)) rfl rfl ?_); ((rintro _ _ ⟨ks', q', rfl, rfl, hk', hq1', hq2'⟩) <;> (first | (refine ev_post ?_ rfl ?_; (focus first | exact .inl rfl | exact .inr rfl | (refine .inr ?_; simp [flagC, ownF, hasSl3, hasSl1, SO.hasSl, List.all_map, flatSV, SV.cells, Function.comp_def]; done))) | (refine ev_postF ?_ rfl ?_; (focus first | rfl | (simp [flagC, ownF, hasSl3, hasSl1, SO.hasSl, List.all_map, flatSV, SV.cells, Function.comp_def]; done))))))) | ((with_reducible refine eK ?_); first | (with_reducible first | refine ev_ct ?_ | refine ev_cf ?_) | ((with_reducible refine ev_cond ?_ ?_) <;> intro h)) | ((with_reducible refine eO ?_); first | refine ev_bd rfl ?_ | (refine ev_bdB rfl ?_ ?_ <;> intro h <;> try (exfalso; simp_all; done)) | refine ev_bd0 rfl ?_ | (refine ev_ldm rfl ?_ rfl ?_; (focus omega)) | (refine ev_ldmB rfl ?_ rfl ?_ ?_; (focus omega); (all_goals intro h))) | ((with_reducible refine eD ?_); first | refine ev_bd rfl ?_ | refine ev_bd0 rfl ?_) | ((with_reducible refine ev_dchk ?_ ?_); · intro _; rfl) | refine ev_ret rfl ?_)
  all_goals first
    | exact ⟨⟨_, ks', need'⟩, bad, rfl, rfl, by dsimp only; omega, by omega⟩
    | exact ⟨⟨1, ks, need⟩, ks', rfl, rfl, by dsimp only; omega, by omega⟩
    | exact ⟨⟨1, ks, need⟩, bad, rfl, rfl, by dsimp only; omega, by omega⟩
    | trace_state
theorem s_safe (r : TRoot) (bad : List Int) (h1 : r.keys.length ≤ 100) (h2 : bad.length ≤ 100) : Ex (fun m => callF prg m 25 [aRoot r, .sl 1 (bad.map iI)] []) (bB (decide (keysBoth r.keys bad < r.need))) [] := by
  refine ev_is.1 ?_
  (refine U25 (nl := 0) rfl ?_; unfold B25)
  repeat' (first | ((with_reducible refine eB ?_); first | ((with_reducible refine ev_lss ?_ ?_) <;> intro h <;> try (exfalso; omega)) | refine ev_bd rfl ?_ | refine ev_bd0 rfl ?_) | ((with_reducible refine eC ?_); first | ((refine ev_call (s_KeysBoth r.keys bad (by omega) (by omega)) rfl rfl ?_ rfl ?_); (focus first | exact .inl rfl | exact .inr rfl | (refine .inr ?_; simp [flagC, ownF, hasSl3, hasSl1, SO.hasSl, List.all_map, flatSV, SV.cells, Function.comp_def]; done)))) | ((with_reducible refine eO ?_); first | refine ev_bd rfl ?_ | (refine ev_bdB rfl ?_ ?_ <;> intro h <;> try (exfalso; simp_all; done)) | refine ev_bd0 rfl ?_ | (refine ev_ldm rfl ?_ rfl ?_; (focus omega)) | (refine ev_ldmB rfl ?_ rfl ?_ ?_; (focus omega); (all_goals intro h))) | ((with_reducible refine eD ?_); first | refine ev_bd rfl ?_ | refine ev_bd0 rfl ?_) | ((with_reducible refine ev_dchk ?_ ?_); · intro _; rfl) | refine ev_ret rfl ?_)
  all_goals (refine ⟨congrArg (fun b => SV.v (Value.bool b)) ?_, rfl⟩; first | (simp_all []; done) | (simp_all []; omega) | (simp [] at *; omega) | (simp []; omega) | grind [] | trace_state)
theorem s_DiskNewSP : Ex (fun m => callF prg m 22 [] []) (aDisk newDisk) [] := by
  have hF := s_l13Files [] (by simp) (PL_small smalls_nil) (fun i h => by cases h)
  refine ev_is.1 ?_
  (refine U22 (nl := 0) rfl ?_; unfold B22)
  repeat' (first | ((with_reducible refine eC ?_); first | ((refine ev_call (hF ..) rfl rfl ?_ rfl ?_); (focus first | exact .inl rfl | exact .inr rfl | (refine .inr ?_; simp [flagC, ownF, hasSl3, hasSl1, SO.hasSl, List.all_map, flatSV, SV.cells, Function.comp_def]; done)))) | ((with_reducible refine eO ?_); first | refine ev_bd rfl ?_ | (refine ev_bdB rfl ?_ ?_ <;> intro h <;> try (exfalso; simp_all; done)) | refine ev_bd0 rfl ?_ | (refine ev_ldm rfl ?_ rfl ?_; (focus omega)) | (refine ev_ldmB rfl ?_ rfl ?_ ?_; (focus omega); (all_goals intro h))) | ((with_reducible refine eD ?_); first | refine ev_bd rfl ?_ | refine ev_bd0 rfl ?_) | refine ev_ret rfl ?_)
  all_goals exact ⟨rfl, rfl⟩
theorem s_DiskNewIP : Ex (fun m => callF prg m 29 [] []) (aDisk newDisk) [] := by
  refine ev_is.1 ?_
  (refine U29 (nl := 0) rfl ?_; unfold B29)
  repeat' (first | ((with_reducible refine eC ?_); first | ((refine ev_call (s_Repeat6 ..) rfl rfl ?_ rfl ?_); (focus first | exact .inl rfl | exact .inr rfl | (refine .inr ?_; simp [flagC, ownF, hasSl3, hasSl1, SO.hasSl, List.all_map, flatSV, SV.cells, Function.comp_def]; done)))) | ((with_reducible refine eO ?_); first | refine ev_bd rfl ?_ | (refine ev_bdB rfl ?_ ?_ <;> intro h <;> try (exfalso; simp_all; done)) | refine ev_bd0 rfl ?_ | (refine ev_ldm rfl ?_ rfl ?_; (focus omega)) | (refine ev_ldmB rfl ?_ rfl ?_ ?_; (focus omega); (all_goals intro h)) | (refine ev_ldz rfl rfl rfl ?_ ?_ ?_; (· simp); (· first | omega | (simp only [List.length_cons, List.length_nil, List.length_map, List.length_append]; omega)); intro w)) | ((with_reducible refine eD ?_); first | refine ev_bd rfl ?_ | refine ev_bd0 rfl ?_) | refine ev_ret rfl ?_)
  all_goals exact ⟨rfl, rfl⟩
end Go.Proofs.Ytikennabfbkdhaa

/- Worlds begin. -/
namespace Go.Proofs.Ytikennabfbkdhaa
open Go
set_option linter.unusedVariables false
set_option linter.unusedSimpArgs false
set_option maxHeartbeats 4000000
set_option maxRecDepth 100000
abbrev oneTrust (r : TRoot) : TTrust := ⟨r, false, ⟨0, 0, []⟩⟩
theorem s_TrustNewSX (r : TRoot) (hr : rootOk r.num r.keys r.need = true) (hk : r.keys.length ≤ 100) : Ex (fun m => callF prg m 20 [aRoot r] []) (.tup [rTrust (oneTrust r), bB true]) (oTrust (oneTrust r)) := by
  refine ev_is.1 (Ev.mono (s_TrustNewS r.num r.keys r.need (by omega)) fun x os h => ?_)
  obtain ⟨t, ok, h, rfl, rfl⟩ := h
  unfold trustNew at h
  rw [if_pos hr] at h
  cases h
  exact ⟨rfl, rfl⟩
theorem s_TrustNewIX (r : TRoot) (hr : rootOk r.num r.keys r.need = true) (hk : r.keys.length ≤ 100) : Ex (fun m => callF prg m 26 [aRoot r] []) (.tup [rTrust (oneTrust r), bB true]) (oTrust (oneTrust r)) := by
  refine ev_is.1 (Ev.mono (s_TrustNewI r.num r.keys r.need (by omega)) fun x os h => ?_)
  obtain ⟨t, ok, h, rfl, rfl⟩ := h
  unfold trustNew at h
  rw [if_pos hr] at h
  cases h
  exact ⟨rfl, rfl⟩
theorem both_pairs {r : TRoot} {bad : List Int} (h1 : rootOk r.num r.keys r.need = true) (h2 : keysOk bad = true) : keysBoth r.keys bad = (pairs r.keys bad : Int) := by
  have hk := (rootOk_iff.1 h1).2.1
  rw [pairs_both h2]
  simp [keysBoth, hk, h2]
end Go.Proofs.Ytikennabfbkdhaa

/- Worlds begin: the spec. -/
namespace Go.Proofs.Ytikennabfbkdhaa
open Go
set_option linter.unusedVariables false
set_option linter.unusedSimpArgs false
set_option maxHeartbeats 4000000
set_option maxRecDepth 100000
theorem s_WorldNewS0 (r : TRoot) (bad : List Int) (h1 : r.keys.length ≤ 100) (h2 : bad.length ≤ 100) (h : ¬ worldOk r bad) : Ex (fun m => callF prg m 5 [aRoot r, .sl 1 (bad.map iI)] []) (.tup [zWorld, bB false]) [] := by
  refine ev_is.1 ?_
  have hB := s_l2Both r.keys bad (by omega) (by omega)
  by_cases a1 : rootOk r.num r.keys r.need = true
  · have hR := s_RootOkS r.num r.keys r.need (by omega)
    rw [a1] at hR
    by_cases a2 : keysOk bad = true
    · have hK := s_KeysOkS bad (by omega)
      rw [a2] at hK
      by_cases a3 : keysBoth r.keys bad < r.need
      · have a4 : ¬ r.num = 1 := fun e => h ⟨a1, a2, a3, e⟩
        rw [both_pairs a1 a2] at a3
        (refine U5 (nl := 0) rfl ?_; unfold B5)
        repeat' (first | ((with_reducible refine eG ?_); first | (with_reducible first | refine ev_gtt ?_ | refine ev_gff ?_ | refine ev_gtf ?_ | refine ev_gft ?_ | refine ev_gu ?_) | refine ev_bd rfl ?_ | refine ev_bd0 rfl ?_ | ((with_reducible refine ev_gB ?_ ?_) <;> intro h)) | ((with_reducible refine eB ?_); first | ((with_reducible first | refine ev_geq ?_ ?_ | refine ev_neq ?_ ?_) <;> intro h <;> try (exfalso; omega)) | refine ev_bd rfl ?_ | refine ev_bd0 rfl ?_) | ((with_reducible refine eC ?_); first | ((refine ev_call (hR ..) rfl rfl ?_ rfl ?_); (focus first | exact .inl rfl | exact .inr rfl | (refine .inr ?_; simp [flagC, ownF, hasSl3, hasSl1, SO.hasSl, List.all_map, flatSV, SV.cells, Function.comp_def]; done))) | ((refine ev_call (hK ..) rfl rfl ?_ rfl ?_); (focus first | exact .inl rfl | exact .inr rfl | (refine .inr ?_; simp [flagC, ownF, hasSl3, hasSl1, SO.hasSl, List.all_map, flatSV, SV.cells, Function.comp_def]; done))) | ((refine ev_call (hB ..) rfl rfl ?_ rfl ?_); (focus first | exact .inl rfl | exact .inr rfl | (refine .inr ?_; simp [flagC, ownF, hasSl3, hasSl1, SO.hasSl, List.all_map, flatSV, SV.cells, Function.comp_def]; done)))) | ((with_reducible refine eA ?_); first | (refine ev_app rfl rfl rfl rfl rfl ?_ ?_; · first | decide | (simp only [List.length_append, List.length_cons, List.length_nil, List.length_map, List.length_take, List.length_drop]; omega))) | ((with_reducible refine eK ?_); first | (with_reducible first | refine ev_ct ?_ | refine ev_cf ?_) | ((with_reducible refine ev_cond ?_ ?_) <;> intro h)) | ((with_reducible refine eO ?_); first | refine ev_bd rfl ?_ | (refine ev_bdB rfl ?_ ?_ <;> intro h <;> try (exfalso; simp_all; done)) | refine ev_bd0 rfl ?_ | (refine ev_ldm rfl ?_ rfl ?_; (focus omega)) | (refine ev_ldmB rfl ?_ rfl ?_ ?_; (focus omega); (all_goals intro h)) | (refine ev_ldz rfl rfl rfl ?_ ?_ ?_; (· simp); (· first | omega | (simp only [List.length_cons, List.length_nil, List.length_map, List.length_append]; omega)); intro w)) | ((with_reducible refine eD ?_); first | refine ev_bd rfl ?_ | refine ev_bd0 rfl ?_ | ((with_reducible refine ev_pickB ?_ ?_) <;> intro h)) | ((with_reducible refine ev_dchk ?_ ?_); · intro _; rfl) | (with_reducible refine ev_bothI ?_ ?_) | refine ev_ret rfl ?_)
        all_goals first | exact ⟨rfl, rfl⟩ | (exfalso; omega) | trace_state
      · rw [both_pairs a1 a2] at a3
        (refine U5 (nl := 0) rfl ?_; unfold B5)
        repeat' (first | ((with_reducible refine eG ?_); first | (with_reducible first | refine ev_gtt ?_ | refine ev_gff ?_ | refine ev_gtf ?_ | refine ev_gft ?_ | refine ev_gu ?_) | refine ev_bd rfl ?_ | refine ev_bd0 rfl ?_ | ((with_reducible refine ev_gB ?_ ?_) <;> intro h)) | ((with_reducible refine eB ?_); first | ((with_reducible first | refine ev_geq ?_ ?_ | refine ev_neq ?_ ?_) <;> intro h <;> try (exfalso; omega)) | refine ev_bd rfl ?_ | refine ev_bd0 rfl ?_) | ((with_reducible refine eC ?_); first | ((refine ev_call (hR ..) rfl rfl ?_ rfl ?_); (focus first | exact .inl rfl | exact .inr rfl | (refine .inr ?_; simp [flagC, ownF, hasSl3, hasSl1, SO.hasSl, List.all_map, flatSV, SV.cells, Function.comp_def]; done))) | ((refine ev_call (hK ..) rfl rfl ?_ rfl ?_); (focus first | exact .inl rfl | exact .inr rfl | (refine .inr ?_; simp [flagC, ownF, hasSl3, hasSl1, SO.hasSl, List.all_map, flatSV, SV.cells, Function.comp_def]; done))) | ((refine ev_call (hB ..) rfl rfl ?_ rfl ?_); (focus first | exact .inl rfl | exact .inr rfl | (refine .inr ?_; simp [flagC, ownF, hasSl3, hasSl1, SO.hasSl, List.all_map, flatSV, SV.cells, Function.comp_def]; done)))) | ((with_reducible refine eA ?_); first | (refine ev_app rfl rfl rfl rfl rfl ?_ ?_; · first | decide | (simp only [List.length_append, List.length_cons, List.length_nil, List.length_map, List.length_take, List.length_drop]; omega))) | ((with_reducible refine eK ?_); first | (with_reducible first | refine ev_ct ?_ | refine ev_cf ?_) | ((with_reducible refine ev_cond ?_ ?_) <;> intro h)) | ((with_reducible refine eO ?_); first | refine ev_bd rfl ?_ | (refine ev_bdB rfl ?_ ?_ <;> intro h <;> try (exfalso; simp_all; done)) | refine ev_bd0 rfl ?_ | (refine ev_ldm rfl ?_ rfl ?_; (focus omega)) | (refine ev_ldmB rfl ?_ rfl ?_ ?_; (focus omega); (all_goals intro h)) | (refine ev_ldz rfl rfl rfl ?_ ?_ ?_; (· simp); (· first | omega | (simp only [List.length_cons, List.length_nil, List.length_map, List.length_append]; omega)); intro w)) | ((with_reducible refine eD ?_); first | refine ev_bd rfl ?_ | refine ev_bd0 rfl ?_ | ((with_reducible refine ev_pickB ?_ ?_) <;> intro h)) | ((with_reducible refine ev_dchk ?_ ?_); · intro _; rfl) | (with_reducible refine ev_bothI ?_ ?_) | refine ev_ret rfl ?_)
        all_goals first | exact ⟨rfl, rfl⟩ | (exfalso; omega) | trace_state
    · have hK := s_KeysOkS bad (by omega)
      rw [Bool.eq_false_iff.2 a2] at hK
      (refine U5 (nl := 0) rfl ?_; unfold B5)
      repeat' (first | ((with_reducible refine eG ?_); first | (with_reducible first | refine ev_gtt ?_ | refine ev_gff ?_ | refine ev_gtf ?_ | refine ev_gft ?_ | refine ev_gu ?_) | refine ev_bd rfl ?_ | refine ev_bd0 rfl ?_ | ((with_reducible refine ev_gB ?_ ?_) <;> intro h)) | ((with_reducible refine eB ?_); first | ((with_reducible first | refine ev_geq ?_ ?_ | refine ev_neq ?_ ?_) <;> intro h <;> try (exfalso; omega)) | refine ev_bd rfl ?_ | refine ev_bd0 rfl ?_) | ((with_reducible refine eC ?_); first | ((refine ev_call (hR ..) rfl rfl ?_ rfl ?_); (focus first | exact .inl rfl | exact .inr rfl | (refine .inr ?_; simp [flagC, ownF, hasSl3, hasSl1, SO.hasSl, List.all_map, flatSV, SV.cells, Function.comp_def]; done))) | ((refine ev_call (hK ..) rfl rfl ?_ rfl ?_); (focus first | exact .inl rfl | exact .inr rfl | (refine .inr ?_; simp [flagC, ownF, hasSl3, hasSl1, SO.hasSl, List.all_map, flatSV, SV.cells, Function.comp_def]; done))) | ((refine ev_call (hB ..) rfl rfl ?_ rfl ?_); (focus first | exact .inl rfl | exact .inr rfl | (refine .inr ?_; simp [flagC, ownF, hasSl3, hasSl1, SO.hasSl, List.all_map, flatSV, SV.cells, Function.comp_def]; done)))) | ((with_reducible refine eA ?_); first | (refine ev_app rfl rfl rfl rfl rfl ?_ ?_; · first | decide | (simp only [List.length_append, List.length_cons, List.length_nil, List.length_map, List.length_take, List.length_drop]; omega))) | ((with_reducible refine eK ?_); first | (with_reducible first | refine ev_ct ?_ | refine ev_cf ?_) | ((with_reducible refine ev_cond ?_ ?_) <;> intro h)) | ((with_reducible refine eO ?_); first | refine ev_bd rfl ?_ | (refine ev_bdB rfl ?_ ?_ <;> intro h <;> try (exfalso; simp_all; done)) | refine ev_bd0 rfl ?_ | (refine ev_ldm rfl ?_ rfl ?_; (focus omega)) | (refine ev_ldmB rfl ?_ rfl ?_ ?_; (focus omega); (all_goals intro h)) | (refine ev_ldz rfl rfl rfl ?_ ?_ ?_; (· simp); (· first | omega | (simp only [List.length_cons, List.length_nil, List.length_map, List.length_append]; omega)); intro w)) | ((with_reducible refine eD ?_); first | refine ev_bd rfl ?_ | refine ev_bd0 rfl ?_ | ((with_reducible refine ev_pickB ?_ ?_) <;> intro h)) | ((with_reducible refine ev_dchk ?_ ?_); · intro _; rfl) | (with_reducible refine ev_bothI ?_ ?_) | refine ev_ret rfl ?_)
      all_goals first | exact ⟨rfl, rfl⟩ | (exfalso; omega) | trace_state
  · have hR := s_RootOkS r.num r.keys r.need (by omega)
    rw [Bool.eq_false_iff.2 a1] at hR
    (refine U5 (nl := 0) rfl ?_; unfold B5)
    repeat' (first | ((with_reducible refine eG ?_); first | (with_reducible first | refine ev_gtt ?_ | refine ev_gff ?_ | refine ev_gtf ?_ | refine ev_gft ?_ | refine ev_gu ?_) | refine ev_bd rfl ?_ | refine ev_bd0 rfl ?_ | ((with_reducible refine ev_gB ?_ ?_) <;> intro h)) | ((with_reducible refine eB ?_); first | ((with_reducible first | refine ev_geq ?_ ?_ | refine ev_neq ?_ ?_) <;> intro h <;> try (exfalso; omega)) | refine ev_bd rfl ?_ | refine ev_bd0 rfl ?_) | ((with_reducible refine eC ?_); first | ((refine ev_call (hR ..) rfl rfl ?_ rfl ?_); (focus first | exact .inl rfl | exact .inr rfl | (refine .inr ?_; simp [flagC, ownF, hasSl3, hasSl1, SO.hasSl, List.all_map, flatSV, SV.cells, Function.comp_def]; done)))) | ((with_reducible refine eA ?_); first | (refine ev_app rfl rfl rfl rfl rfl ?_ ?_; · first | decide | (simp only [List.length_append, List.length_cons, List.length_nil, List.length_map, List.length_take, List.length_drop]; omega))) | ((with_reducible refine eK ?_); first | (with_reducible first | refine ev_ct ?_ | refine ev_cf ?_) | ((with_reducible refine ev_cond ?_ ?_) <;> intro h)) | ((with_reducible refine eO ?_); first | refine ev_bd rfl ?_ | (refine ev_bdB rfl ?_ ?_ <;> intro h <;> try (exfalso; simp_all; done)) | refine ev_bd0 rfl ?_ | (refine ev_ldm rfl ?_ rfl ?_; (focus omega)) | (refine ev_ldmB rfl ?_ rfl ?_ ?_; (focus omega); (all_goals intro h)) | (refine ev_ldz rfl rfl rfl ?_ ?_ ?_; (· simp); (· first | omega | (simp only [List.length_cons, List.length_nil, List.length_map, List.length_append]; omega)); intro w)) | ((with_reducible refine eD ?_); first | refine ev_bd rfl ?_ | refine ev_bd0 rfl ?_ | ((with_reducible refine ev_pickB ?_ ?_) <;> intro h)) | ((with_reducible refine ev_dchk ?_ ?_); · intro _; rfl) | (with_reducible refine ev_bothI ?_ ?_) | refine ev_ret rfl ?_)
    all_goals first | exact ⟨rfl, rfl⟩ | (exfalso; omega) | trace_state
end Go.Proofs.Ytikennabfbkdhaa
