/- The evaluator S and what it says of functions: V23, V24, V25, V26, V27. -/
import Derived.Test.YtlnenahbffkbiaaV22
/- Packages that can be in together. -/
namespace Go.Proofs.Ytlnenahbffkbiaa
open Go
set_option linter.unusedVariables false
set_option linter.unusedSimpArgs false
set_option maxHeartbeats 4000000
def bearsP (s : List TPkg) (dn dl : Int) : Prop := ∃ p, p ∈ s ∧ (p.name = dn ∧ dl ≤ p.ver)
instance (s : List TPkg) (dn dl : Int) : Decidable (bearsP s dn dl) := by unfold bearsP; exact inferInstance
def ownedTo (s : List TPkg) (n : Nat) (x : Int) : Prop := ∃ j, j < n ∧ ∃ f, f ∈ (nth s j).files ∧ f.path = x
instance (s : List TPkg) (n : Nat) (x : Int) : Decidable (ownedTo s n x) := by unfold ownedTo; exact inferInstance
def depsAtP (s : List TPkg) (i : Nat) : Prop := ∀ j, j < (nth s i).deps.length → bearsP s (nth (nth s i).deps j).name (nth (nth s i).deps j).least
instance (s : List TPkg) (i : Nat) : Decidable (depsAtP s i) := by unfold depsAtP; exact inferInstance
def filesAtP (s : List TPkg) (i : Nat) : Prop := ∀ j, j < (nth s i).files.length → ¬ ownedTo s i (nth (nth s i).files j).path
instance (s : List TPkg) (i : Nat) : Decidable (filesAtP s i) := by unfold filesAtP; exact inferInstance
def oneAt (s : List TPkg) (i : Nat) : Prop := 0 < i → (nth s (i - 1)).name < (nth s i).name
instance (s : List TPkg) (i : Nat) : Decidable (oneAt s i) := by unfold oneAt; exact inferInstance
def oneOk (s : List TPkg) : Bool := decide (∀ i, i < s.length → oneAt s i)
def planAt (s : List TPkg) (i : Nat) : Prop := oneAt s i ∧ depsAtP s i ∧ filesAtP s i
instance (s : List TPkg) (i : Nat) : Decidable (planAt s i) := by unfold planAt; exact inferInstance
def plansAt (s : List TPkg) : Bool := decide (∀ i, i < s.length → planAt s i)
def planOk (s : List TPkg) : Bool := storeOk s && plansAt s
theorem planOk_iff {s : List TPkg} : planOk s = true ↔ storeOk s = true ∧ ∀ i, i < s.length → planAt s i := by simp [planOk, plansAt]
theorem bears_newest {s : List TPkg} (hs : storeOk s = true) {dn dl : Int} {p : TPkg} {ok : Bool} (h : newestP s dn = (p, ok)) : bearsP s dn dl ↔ ok = true ∧ dl ≤ p.ver := by
  cases ok with
  | true =>
    obtain ⟨h1, h2, -⟩ := newest_true h
    constructor
    · rintro ⟨q, hq, e1, e2⟩
      rcases store_max hs h hq e1 with rfl | e3
      · exact ⟨rfl, e2⟩
      · exact ⟨rfl, by omega⟩
    · rintro ⟨-, e⟩; exact ⟨p, h1, h2, e⟩
  | false =>
    obtain ⟨-, h2⟩ := newest_false h
    constructor
    · rintro ⟨q, hq, e1, -⟩; exact absurd e1 (h2 q hq)
    · rintro ⟨e, -⟩; cases e
theorem s_l13Meets (s : List TPkg) (hs : s.length ≤ 2000000) (hp0 : PL s) (hok : storeOk s = true) (dn dl : Int) : Ex (fun m => callF prg m 37 [.sl 4 (s.map ePkg), .ag [iI dn, iI dl]] []) (bB (decide (bearsP s dn dl))) [] := by
  refine ev_is.1 ?_
  (refine U37 (nl := 0) rfl ?_; unfold B37)
  repeat' (first | ((with_reducible refine eG ?_); first | (with_reducible first | refine ev_gtt ?_ | refine ev_gff ?_ | refine ev_gtf ?_ | refine ev_gft ?_ | refine ev_gu ?_) | refine ev_bd rfl ?_ | refine ev_bd0 rfl ?_ | ((with_reducible refine ev_gB ?_ ?_) <;> intro h)) | ((with_reducible refine eB ?_); first | ((with_reducible refine ev_geq ?_ ?_) <;> intro h <;> try (exfalso; omega)) | refine ev_bd rfl ?_ | refine ev_bd0 rfl ?_) | ((with_reducible refine eC ?_); first | ((refine ev_callE (s_l12Newest s hs hp0 dn) rfl rfl ?_); ((rintro _ _ ⟨p, ok, h1, rfl, rfl⟩) <;> (((have hb := bears_newest (dl := dl) hok h1); (rcases ok with _ | _))) <;> (first | (refine ev_post ?_ rfl ?_; (focus first | exact .inl rfl | exact .inr rfl | (refine .inr ?_; simp [flagC, ownF, hasSl3, hasSl1, SO.hasSl, List.all_map, flatSV, SV.cells, Function.comp_def]; done))) | (refine ev_postF ?_ rfl ?_; (focus first | rfl | (simp [flagC, ownF, hasSl3, hasSl1, SO.hasSl, List.all_map, flatSV, SV.cells, Function.comp_def]; done))))))) | ((with_reducible refine eO ?_); first | refine ev_bd rfl ?_ | (refine ev_bdB rfl ?_ ?_ <;> intro h <;> try (exfalso; simp_all; done)) | refine ev_bd0 rfl ?_ | (refine ev_ldm rfl ?_ rfl ?_; (focus omega)) | (refine ev_ldmB rfl ?_ rfl ?_ ?_; (focus omega); (all_goals intro h))) | ((with_reducible refine eD ?_); first | refine ev_bd rfl ?_ | refine ev_bd0 rfl ?_ | ((with_reducible refine ev_pickB ?_ ?_) <;> intro h)) | refine ev_ret rfl ?_)
  all_goals exact ⟨congrArg bB (by simp [hb, *]), rfl⟩
theorem s_l13One_L (s : List TPkg) (hs : s.length ≤ 2000000) : ∀ i, i ≤ s.length + 1 → 1 ≤ i → (∀ j, j < i → oneAt s j) → ∀ (k : Int) (c : Nat), k = i →
    Ev (fun n => L36_2 (callF prg n) (n + 1) 0 (n + 1 - c) (.sl 4 (s.map ePkg)) (iI k) []) (Is (bB (oneOk s)) []) := by
  refine up_ind ?_
  intro i hi ih h1 hp k c hk
  subst hk
  (refine UL36_2 ?_; unfold LB36_2)
  repeat' (first | ((with_reducible refine eB ?_); first | ((with_reducible first | refine ev_lss ?_ ?_ | refine ev_geq ?_ ?_) <;> intro h <;> try (exfalso; omega)) | ((with_reducible first | refine ev_add ?_ ?_ | refine ev_sub ?_ ?_); · omega) | refine ev_bd rfl ?_ | refine ev_bd0 rfl ?_) | ((with_reducible refine eL ?_); first | ((with_reducible refine ev_lenm ?_ ?_); · rfl) | refine ev_lenom rfl rfl ?_ | refine ev_lenfm rfl rfl ?_ | refine ev_lenoc rfl rfl rfl ?_ | refine ev_lenc rfl rfl ?_ | refine ev_leno rfl rfl ?_ | refine ev_slen rfl ?_ | refine ev_bd rfl ?_ | refine ev_bd0 rfl ?_) | ((with_reducible refine eI ?_); first | ((with_reducible refine ev_idxn ?_ ?_ ?_); (· rfl); · omega) | (refine ev_idxon rfl rfl ?_ ?_; (· first | omega | (simp only [List.length_cons, List.length_nil, List.length_map, List.length_append]; omega))) | (refine ev_idxfn rfl rfl ?_ ?_; (focus omega)) | ((with_reducible refine ev_idx ?_ ?_ ?_); (· rfl); · omega) | (refine ev_idxo rfl rfl ?_ ?_; (· first | omega | (simp only [List.length_cons, List.length_nil, List.length_map, List.length_append]; omega))) | (refine ev_idxf rfl rfl ?_ ?_; (focus omega)) | refine ev_bd rfl ?_ | refine ev_bd0 rfl ?_) | ((with_reducible refine eK ?_); first | (with_reducible first | refine ev_ct ?_ | refine ev_cf ?_) | ((with_reducible refine ev_cond ?_ ?_) <;> intro h)) | ((with_reducible refine eO ?_); first | refine ev_bd rfl ?_ | (refine ev_bdB rfl ?_ ?_ <;> intro h <;> try (exfalso; simp_all; done)) | refine ev_bd0 rfl ?_ | (refine ev_ldm rfl ?_ rfl ?_; (focus omega)) | (refine ev_ldmB rfl ?_ rfl ?_ ?_; (focus omega); (all_goals intro h))) | ((with_reducible refine eD ?_); first | refine ev_bd rfl ?_ | refine ev_bd0 rfl ?_) | ((with_reducible refine ih ?_ ?_ (all_step hp ?_) _ _ ?_) <;> (first | omega | assumption | ((unfold oneAt; (try simp only [Int.toNat_natCast, tn_sub1, tn_add1] at *); omega)) | (simp only [*, List.map_append, List.length_append, List.length_cons, List.length_nil, List.map_cons, List.map_nil]; done) | (simp_all; done) | (simp_all; omega))) | refine ev_ret rfl ?_)
  all_goals first | exact ⟨congrArg bB (Eq.symm (all_true hp (by omega))), rfl⟩ | exact ⟨congrArg bB (Eq.symm (all_false (i := i) (by omega) (by unfold oneAt; (try simp only [Int.toNat_natCast, tn_sub1, tn_add1] at *); omega))), rfl⟩ | trace_state
theorem s_l13One (s : List TPkg) (hs : s.length ≤ 2000000) : Ex (fun m => callF prg m 36 [.sl 4 (s.map ePkg)] []) (bB (oneOk s)) [] := by
  refine ev_is.1 ?_
  (refine U36 (nl := 0) rfl ?_; unfold B36)
  exact s_l13One_L s hs 1 (by omega) (by omega) (fun j hj h0 => by omega) 1 0 rfl
theorem owned_step {s : List TPkg} {i : Nat} {x : Int} : ownedTo s (i + 1) x ↔ ownedTo s i x ∨ ∃ f, f ∈ (nth s i).files ∧ f.path = x := by
  unfold ownedTo
  constructor
  · rintro ⟨j, hj, h⟩
    by_cases e : j = i
    · subst e; exact .inr h
    · exact .inl ⟨j, by omega, h⟩
  · rintro (⟨j, hj, h⟩ | h)
    · exact ⟨j, by omega, h⟩
    · exact ⟨i, by omega, h⟩
def QOwn (s : List TPkg) (b : Nat) (x : Int) : SV → List SO → Prop := fun y os => ∃ z : Int, y = iI z ∧ os = [] ∧ (0 ≤ z ↔ ownedTo s b x)
theorem s_l13Owner_L5 (s : List TPkg) (hs : s.length ≤ 2000000) (hp0 : PL s) (b : Nat) (hb : b ≤ s.length) (x : Int) (m2 : Nat → Nat) (i : Nat) (hi : i < b)
    (hq : (∀ f, f ∈ (nth s i).files → f.path ≠ x) → Ev (fun n => L38_2 (callF prg n) (n + 1) 0 (m2 n) (.sl 4 (s.map ePkg)) (iI b) (iI x) (iI ((i : Int) + 1)) []) (QOwn s b x)) : ∀ j, j ≤ (nth s i).files.length → (∀ k, k < j → (nth (nth s i).files k).path ≠ x) → ∀ (k : Int) (c : Nat), k = j →
    Ev (fun n => L38_5 (callF prg n) (n + 1) 0 (m2 n) (n + 1 - c) (.sl 4 (s.map ePkg)) (iI b) (iI x) (iI i) (iI k) []) (QOwn s b x) := by
  have hpi := hp0 i
  refine up_ind ?_
  intro j hj ih hp k c hk
  subst hk
  (refine UL38_5 ?_; unfold LB38_5)
  repeat' (first | ((with_reducible refine eB ?_); first | ((with_reducible first | refine ev_lss ?_ ?_ | refine ev_eql ?_ ?_) <;> intro h <;> try (exfalso; omega)) | ((with_reducible refine ev_add ?_ ?_); · omega) | refine ev_bd rfl ?_ | refine ev_bd0 rfl ?_) | ((with_reducible refine eL ?_); first | ((with_reducible refine ev_lenm ?_ ?_); · rfl) | refine ev_lenom rfl rfl ?_ | refine ev_lenfm rfl rfl ?_ | refine ev_lenoc rfl rfl rfl ?_ | refine ev_lenc rfl rfl ?_ | refine ev_leno rfl rfl ?_ | refine ev_slen rfl ?_ | refine ev_bd rfl ?_ | refine ev_bd0 rfl ?_) | ((with_reducible refine eI ?_); first | ((with_reducible refine ev_idxn ?_ ?_ ?_); (· rfl); · omega) | (refine ev_idxon rfl rfl ?_ ?_; (· first | omega | (simp only [List.length_cons, List.length_nil, List.length_map, List.length_append]; omega))) | (refine ev_idxfn rfl rfl ?_ ?_; (focus omega)) | ((with_reducible refine ev_idx ?_ ?_ ?_); (· rfl); · omega) | (refine ev_idxo rfl rfl ?_ ?_; (· first | omega | (simp only [List.length_cons, List.length_nil, List.length_map, List.length_append]; omega))) | (refine ev_idxf rfl rfl ?_ ?_; (focus omega)) | refine ev_bd rfl ?_ | refine ev_bd0 rfl ?_) | ((with_reducible refine eK ?_); first | (with_reducible first | refine ev_ct ?_ | refine ev_cf ?_) | ((with_reducible refine ev_cond ?_ ?_) <;> intro h)) | ((with_reducible refine eO ?_); first | refine ev_bd rfl ?_ | (refine ev_bdB rfl ?_ ?_ <;> intro h <;> try (exfalso; simp_all; done)) | refine ev_bd0 rfl ?_ | (refine ev_ldm rfl ?_ rfl ?_; (focus omega)) | (refine ev_ldmB rfl ?_ rfl ?_ ?_; (focus omega); (all_goals intro h))) | ((with_reducible refine eD ?_); first | refine ev_bd rfl ?_ | refine ev_bd0 rfl ?_) | ((with_reducible refine ih ?_ (all_step hp ?_) _ _ ?_) <;> (first | omega | assumption | (simp only [*, List.map_append, List.length_append, List.length_cons, List.length_nil, List.map_cons, List.map_nil]; done) | (simp_all; done) | (simp_all; omega))) | ( exact hq fun f hf => by (obtain ⟨y, hy, rfl⟩ := mem_nth hf; exact hp y (by omega))) | refine ev_ret rfl ?_)
  all_goals (refine ⟨_, rfl, rfl, ⟨fun _ => ⟨i, hi, _, nth_mem (l := (nth s i).files) (k := j) (by omega), by simpa using h⟩, fun _ => by omega⟩⟩)
theorem s_l13Owner_L2 (s : List TPkg) (hs : s.length ≤ 2000000) (hp0 : PL s) (b : Nat) (hb : b ≤ s.length) (x : Int) : ∀ i, i ≤ b → ¬ ownedTo s i x → ∀ (k : Int) (c : Nat), k = i →
    Ev (fun n => L38_2 (callF prg n) (n + 1) 0 (n + 1 - c) (.sl 4 (s.map ePkg)) (iI b) (iI x) (iI k) []) (QOwn s b x) := by
  refine up_ind ?_
  intro i hi ih hp k c hk
  subst hk
  (refine UL38_2 ?_; unfold LB38_2)
  repeat' (first | ((with_reducible refine eB ?_); first | ((with_reducible refine ev_lss ?_ ?_) <;> intro h <;> try (exfalso; omega)) | refine ev_bd rfl ?_ | refine ev_bd0 rfl ?_) | ((with_reducible refine eK ?_); first | (with_reducible first | refine ev_ct ?_ | refine ev_cf ?_) | ((with_reducible refine ev_cond ?_ ?_) <;> intro h)) | ((with_reducible refine eD ?_); first | refine ev_bd rfl ?_ | refine ev_bd0 rfl ?_) | ( exact s_l13Owner_L5 s hs hp0 b hb x _ i (by omega) (fun hf => ih (by omega) (by (rw [owned_step]; rintro (h1 | ⟨f, h1, h2⟩); exact hp h1; exact hf f h1 h2)) _ _ rfl) 0 (by omega) (fun k hk => by omega) 0 0 rfl) | refine ev_ret rfl ?_)
  obtain rfl : i = b := by omega
  exact ⟨_, rfl, rfl, ⟨fun h => by omega, fun h => absurd h hp⟩⟩
theorem s_l13Owner (s : List TPkg) (hs : s.length ≤ 2000000) (hp0 : PL s) (b : Nat) (hb : b ≤ s.length) (x : Int) : ∃ z : Int, (0 ≤ z ↔ ownedTo s b x) ∧ Ex (fun m => callF prg m 38 [.sl 4 (s.map ePkg), iI b, iI x] []) (iI z) [] := by
  have key : Ev (fun m => callF prg m 38 [.sl 4 (s.map ePkg), iI b, iI x] []) (QOwn s b x) := by
    (refine U38 (nl := 0) rfl ?_; unfold B38)
    exact s_l13Owner_L2 s hs hp0 b hb x 0 (by omega) (by rintro ⟨j, hj, -⟩; omega) 0 0 rfl
  obtain ⟨_, _, ⟨z, rfl, rfl, hz⟩, he⟩ := key
  exact ⟨z, hz, he⟩
theorem s_PlanOkS_L12 (s : List TPkg) (hs : s.length ≤ 2000000) (hp0 : PL s) {Q : SV → List SO → Prop} (m4 : Nat → Nat) (i : Nat) (hi : i < s.length)
    (hq : filesAtP s i → Ev (fun n => L15_4 (callF prg n) (n + 1) 0 (m4 n) (.sl 4 (s.map ePkg)) (iI ((i : Int) + 1)) []) Q) (hn : ¬ filesAtP s i → Q (bB false) []) : ∀ j, j ≤ (nth s i).files.length → (∀ k, k < j → ¬ ownedTo s i (nth (nth s i).files k).path) → ∀ (k : Int) (c : Nat), k = j →
    Ev (fun n => L15_12 (callF prg n) (n + 1) 0 (m4 n) (n + 1 - c) (.sl 4 (s.map ePkg)) (iI i) (iI k) []) Q := by
  have hpi := hp0 i
  refine up_ind ?_
  intro j hj ih hp k c hk
  subst hk
  (refine UL15_12 ?_; unfold LB15_12)
  repeat' (first | ((with_reducible refine eB ?_); first | ((with_reducible first | refine ev_lss ?_ ?_ | refine ev_geq ?_ ?_) <;> intro h <;> try (exfalso; omega)) | ((with_reducible refine ev_add ?_ ?_); · omega) | refine ev_bd rfl ?_ | refine ev_bd0 rfl ?_) | ((with_reducible refine eL ?_); first | ((with_reducible refine ev_lenm ?_ ?_); · rfl) | refine ev_lenom rfl rfl ?_ | refine ev_lenfm rfl rfl ?_ | refine ev_lenoc rfl rfl rfl ?_ | refine ev_lenc rfl rfl ?_ | refine ev_leno rfl rfl ?_ | refine ev_slen rfl ?_ | refine ev_bd rfl ?_ | refine ev_bd0 rfl ?_) | ((with_reducible refine eI ?_); first | ((with_reducible refine ev_idxn ?_ ?_ ?_); (· rfl); · omega) | (refine ev_idxon rfl rfl ?_ ?_; (· first | omega | (simp only [List.length_cons, List.length_nil, List.length_map, List.length_append]; omega))) | (refine ev_idxfn rfl rfl ?_ ?_; (focus omega)) | ((with_reducible refine ev_idx ?_ ?_ ?_); (· rfl); · omega) | (refine ev_idxo rfl rfl ?_ ?_; (· first | omega | (simp only [List.length_cons, List.length_nil, List.length_map, List.length_append]; omega))) | (refine ev_idxf rfl rfl ?_ ?_; (focus omega)) | refine ev_bd rfl ?_ | refine ev_bd0 rfl ?_) | ((with_reducible refine eC ?_); first | ((refine ev_callN (s_l13Owner s hs hp0 i (by omega) _) rfl rfl ?_ (fun _ => rfl) ?_); (· first | exact .inl rfl | exact .inr (fun _ => rfl)); (first | (have q0 := z3; clear q0; intro z4 hz4) | (have q0 := z2; clear q0; intro z3 hz3) | (have q0 := z; clear q0; intro z2 hz2) | (intro z hz)))) | ((with_reducible refine eK ?_); first | (with_reducible first | refine ev_ct ?_ | refine ev_cf ?_) | ((with_reducible refine ev_cond ?_ ?_) <;> intro h)) | ((with_reducible refine eO ?_); first | refine ev_bd rfl ?_ | (refine ev_bdB rfl ?_ ?_ <;> intro h <;> try (exfalso; simp_all; done)) | refine ev_bd0 rfl ?_ | (refine ev_ldm rfl ?_ rfl ?_; (focus omega)) | (refine ev_ldmB rfl ?_ rfl ?_ ?_; (focus omega); (all_goals intro h))) | ((with_reducible refine eD ?_); first | refine ev_bd rfl ?_ | refine ev_bd0 rfl ?_) | ((with_reducible refine ih ?_ (all_step hp ?_) _ _ ?_) <;> (first | omega | assumption | ((intro h9; have := hz.2 h9; omega)) | (simp only [*, List.map_append, List.length_append, List.length_cons, List.length_nil, List.map_cons, List.map_nil]; done) | (simp_all; done) | (simp_all; omega))) | ( exact hq fun y hy => hp y (by omega)) | refine ev_ret rfl ?_)
  all_goals (refine hn fun h9 => h9 j (by omega) ?_; exact hz.1 (by omega))
theorem s_PlanOkS_L7 (s : List TPkg) (hs : s.length ≤ 2000000) (hp0 : PL s) (hok : storeOk s = true) {Q : SV → List SO → Prop} (m4 : Nat → Nat) (i : Nat) (hi : i < s.length)
    (hq : depsAtP s i → filesAtP s i → Ev (fun n => L15_4 (callF prg n) (n + 1) 0 (m4 n) (.sl 4 (s.map ePkg)) (iI ((i : Int) + 1)) []) Q) (hn : ¬ (depsAtP s i ∧ filesAtP s i) → Q (bB false) []) : ∀ j, j ≤ (nth s i).deps.length → (∀ k, k < j → bearsP s (nth (nth s i).deps k).name (nth (nth s i).deps k).least) → ∀ (k : Int) (c : Nat), k = j →
    Ev (fun n => L15_7 (callF prg n) (n + 1) 0 (m4 n) (n + 1 - c) (.sl 4 (s.map ePkg)) (iI i) (iI k) []) Q := by
  have hpi := hp0 i
  refine up_ind ?_
  intro j hj ih hp k c hk
  subst hk
  (refine UL15_7 ?_; unfold LB15_7)
  repeat' (first | ((with_reducible refine eB ?_); first | ((with_reducible refine ev_lss ?_ ?_) <;> intro h <;> try (exfalso; omega)) | ((with_reducible refine ev_add ?_ ?_); · omega) | refine ev_bd rfl ?_ | refine ev_bd0 rfl ?_) | ((with_reducible refine eL ?_); first | ((with_reducible refine ev_lenm ?_ ?_); · rfl) | refine ev_lenom rfl rfl ?_ | refine ev_lenfm rfl rfl ?_ | refine ev_lenoc rfl rfl rfl ?_ | refine ev_lenc rfl rfl ?_ | refine ev_leno rfl rfl ?_ | refine ev_slen rfl ?_ | refine ev_bd rfl ?_ | refine ev_bd0 rfl ?_) | ((with_reducible refine eI ?_); first | ((with_reducible refine ev_idxn ?_ ?_ ?_); (· rfl); · omega) | (refine ev_idxon rfl rfl ?_ ?_; (· first | omega | (simp only [List.length_cons, List.length_nil, List.length_map, List.length_append]; omega))) | (refine ev_idxfn rfl rfl ?_ ?_; (focus omega)) | ((with_reducible refine ev_idx ?_ ?_ ?_); (· rfl); · omega) | (refine ev_idxo rfl rfl ?_ ?_; (· first | omega | (simp only [List.length_cons, List.length_nil, List.length_map, List.length_append]; omega))) | (refine ev_idxf rfl rfl ?_ ?_; (focus omega)) | refine ev_bd rfl ?_ | refine ev_bd0 rfl ?_) | ((with_reducible refine eC ?_); first | ((refine ev_callD (s_l13Meets s hs hp0 hok _ _) rfl rfl ?_ rfl rfl ?_ ?_); (focus first | exact .inl rfl | exact .inr rfl | (refine .inr ?_; simp [flagC, ownF, hasSl3, hasSl1, SO.hasSl, List.all_map, flatSV, SV.cells, Function.comp_def]; done)); (all_goals (intro h)); (all_goals (try (exfalso; first | omega | exact h rfl | exact h ⟨rfl, rfl, rfl⟩))))) | ((with_reducible refine eK ?_); first | (with_reducible first | refine ev_ct ?_ | refine ev_cf ?_) | ((with_reducible refine ev_cond ?_ ?_) <;> intro h)) | ((with_reducible refine eO ?_); first | refine ev_bd rfl ?_ | (refine ev_bdB rfl ?_ ?_ <;> intro h <;> try (exfalso; simp_all; done)) | refine ev_bd0 rfl ?_ | (refine ev_ldm rfl ?_ rfl ?_; (focus omega)) | (refine ev_ldmB rfl ?_ rfl ?_ ?_; (focus omega); (all_goals intro h))) | ((with_reducible refine eD ?_); first | refine ev_bd rfl ?_ | refine ev_bd0 rfl ?_) | ((with_reducible refine ih ?_ (all_step hp ?_) _ _ ?_) <;> (first | omega | assumption | (simp only [*, List.map_append, List.length_append, List.length_cons, List.length_nil, List.map_cons, List.map_nil]; done) | (simp_all; done) | (simp_all; omega))) | ( ((have hd : depsAtP s i := fun y hy => hp y (by omega)); exact s_PlanOkS_L12 s hs hp0 m4 i hi (hq hd) (fun h9 => hn fun h8 => h9 h8.2) 0 (by omega) (fun k hk => by omega) 0 0 rfl)) | refine ev_ret rfl ?_)
  all_goals exact hn fun h9 => h (h9.1 j (by omega))
theorem s_PlanOkS_L4 (s : List TPkg) (hs : s.length ≤ 2000000) (hp0 : PL s) (hok : storeOk s = true) (hone : oneOk s = true) : ∀ i, i ≤ s.length → (∀ j, j < i → planAt s j) → ∀ (k : Int) (c : Nat), k = i →
    Ev (fun n => L15_4 (callF prg n) (n + 1) 0 (n + 1 - c) (.sl 4 (s.map ePkg)) (iI k) []) (Is (bB (planOk s)) []) := by
  have ho : ∀ i, i < s.length → oneAt s i := of_decide_eq_true hone
  refine up_ind ?_
  intro i hi ih hp k c hk
  subst hk
  (refine UL15_4 ?_; unfold LB15_4)
  repeat' (first | ((with_reducible refine eB ?_); first | ((with_reducible refine ev_lss ?_ ?_) <;> intro h <;> try (exfalso; omega)) | refine ev_bd rfl ?_ | refine ev_bd0 rfl ?_) | ((with_reducible refine eL ?_); first | ((with_reducible refine ev_lenm ?_ ?_); · rfl) | refine ev_lenom rfl rfl ?_ | refine ev_lenfm rfl rfl ?_ | refine ev_lenoc rfl rfl rfl ?_ | refine ev_lenc rfl rfl ?_ | refine ev_leno rfl rfl ?_ | refine ev_slen rfl ?_ | refine ev_bd rfl ?_ | refine ev_bd0 rfl ?_) | ((with_reducible refine eK ?_); first | (with_reducible first | refine ev_ct ?_ | refine ev_cf ?_) | ((with_reducible refine ev_cond ?_ ?_) <;> intro h)) | ((with_reducible refine eD ?_); first | refine ev_bd rfl ?_ | refine ev_bd0 rfl ?_) | ( exact s_PlanOkS_L7 s hs hp0 hok _ i (by omega) (fun hd hf => ih (by omega) (all_step hp ⟨ho i (by omega), hd, hf⟩) _ _ rfl) (fun h9 => ⟨congrArg bB (by rw [planOk, hok, Bool.true_and]; exact (all_false (i := i) (by omega) fun h8 => h9 h8.2).symm), rfl⟩) 0 (by omega) (fun k hk => by omega) 0 0 rfl) | refine ev_ret rfl ?_)
  exact ⟨congrArg bB (by rw [planOk, hok, Bool.true_and]; exact (all_true hp (by omega)).symm), rfl⟩
theorem s_PlanOkS (s : List TPkg) (hs : s.length ≤ 2000000) (hp0 : PL s) : Ex (fun m => callF prg m 15 [.sl 4 (s.map ePkg)] []) (bB (planOk s)) [] := by
  refine ev_is.1 ?_
  (refine U15 (nl := 0) rfl ?_; unfold B15)
  repeat' (first | ((with_reducible refine eG ?_); first | (with_reducible first | refine ev_gtt ?_ | refine ev_gff ?_ | refine ev_gtf ?_ | refine ev_gft ?_ | refine ev_gu ?_) | refine ev_bd rfl ?_ | refine ev_bd0 rfl ?_ | ((with_reducible refine ev_gB ?_ ?_) <;> intro h)) | ((with_reducible refine eC ?_); first | ((refine ev_callB (s_StoreOkS s hs hp0) rfl rfl ?_ rfl rfl ?_ ?_); (focus first | exact .inl rfl | exact .inr rfl | (refine .inr ?_; simp [flagC, ownF, hasSl3, hasSl1, SO.hasSl, List.all_map, flatSV, SV.cells, Function.comp_def]; done)); (all_goals (intro h)); (all_goals (try (exfalso; simp_all; done)))) | ((refine ev_callB (s_l13One s hs) rfl rfl ?_ rfl rfl ?_ ?_); (focus first | exact .inl rfl | exact .inr rfl | (refine .inr ?_; simp [flagC, ownF, hasSl3, hasSl1, SO.hasSl, List.all_map, flatSV, SV.cells, Function.comp_def]; done)); (all_goals (intro h)); (all_goals (try (exfalso; simp_all; done))))) | ((with_reducible refine eK ?_); first | (with_reducible first | refine ev_ct ?_ | refine ev_cf ?_) | ((with_reducible refine ev_cond ?_ ?_) <;> intro h)) | ((with_reducible refine eD ?_); first | refine ev_bd rfl ?_ | refine ev_bd0 rfl ?_ | ((with_reducible refine ev_pickB ?_ ?_) <;> intro h)) | ( exact s_PlanOkS_L4 s hs hp0 (by assumption) (by assumption) 0 (by omega) (fun j hj => by omega) 0 0 rfl) | refine ev_ret rfl ?_)
  all_goals first
    | (refine ⟨congrArg bB ?_, rfl⟩; simp [planOk, *]; done)
    | (refine ⟨congrArg bB ?_, rfl⟩
       have h1 : plansAt s = false := by
         refine decide_eq_false fun h9 => ?_
         have h8 : oneOk s = true := decide_eq_true fun i hi => (h9 i hi).1
         simp_all
       simp [planOk, h1])
    | trace_state
theorem s_bears1 (name ver : Int) (F : List TFile) (D : List TDep) (dn dl : Int) : Ex (fun m => callF prg m 56 [.ag [iI name, iI ver, .sl 2 (F.map eFile), .sl 2 (D.map eDep)], .ptr 0 0] [.box [iI dn, iI dl]]) (bB (decide (name = dn ∧ dl ≤ ver))) [.box [iI dn, iI dl]] := by
  refine ev_is.1 ?_
  (refine U56 (nl := 1) rfl ?_; unfold B56)
  repeat' (first | ((with_reducible refine eG ?_); first | (with_reducible first | refine ev_gtt ?_ | refine ev_gff ?_ | refine ev_gtf ?_ | refine ev_gft ?_ | refine ev_gu ?_) | refine ev_bd rfl ?_ | refine ev_bd0 rfl ?_ | ((with_reducible refine ev_gB ?_ ?_) <;> intro h)) | ((with_reducible refine eB ?_); first | ((with_reducible first | refine ev_geq ?_ ?_ | refine ev_eql ?_ ?_) <;> intro h <;> try (exfalso; omega)) | refine ev_bd rfl ?_ | refine ev_bd0 rfl ?_) | ((with_reducible refine eO ?_); first | refine ev_bd rfl ?_ | (refine ev_bdB rfl ?_ ?_ <;> intro h <;> try (exfalso; simp_all; done)) | refine ev_bd0 rfl ?_ | (refine ev_ldm rfl ?_ rfl ?_; (focus omega)) | (refine ev_ldmB rfl ?_ rfl ?_ ?_; (focus omega); (all_goals intro h))) | ((with_reducible refine eD ?_); first | refine ev_bd rfl ?_ | refine ev_bd0 rfl ?_ | ((with_reducible refine ev_pickB ?_ ?_) <;> intro h)) | refine ev_ret rfl ?_)
  all_goals (refine ⟨congrArg (fun b => SV.v (Value.bool b)) ?_, rfl⟩; first | (simp_all []; done) | (simp_all []; omega) | (simp [] at *; omega) | (simp []; omega) | grind [] | trace_state)
theorem s_IxPkg_L (s : List TPkg) (hs : s.length ≤ 2000000) (dn dl : Int) : ∀ i, i ≤ s.length → (∀ j, j < i → ¬ ((nth s j).name = dn ∧ dl ≤ (nth s j).ver)) → ∀ (k : Int) (c : Nat), k = i →
    Ev (fun n => L65_2 (callF prg n) (n + 1) 1 (n + 1 - c) (.sl 4 (s.map ePkg)) (.fn 56 [.ptr 0 0]) (iI s.length) (iI k) [.box [iI dn, iI dl]]) (fun y os => ∃ z : Int, y = iI z ∧ os = [.box [iI dn, iI dl]] ∧ (0 ≤ z ↔ bearsP s dn dl)) := by
  refine up_ind ?_
  intro i hi ih hp k c hk
  subst hk
  (refine UL65_2 ?_; unfold LB65_2)
  repeat' (first | ((with_reducible refine eB ?_); first | ((with_reducible refine ev_lss ?_ ?_) <;> intro h <;> try (exfalso; omega)) | ((with_reducible refine ev_add ?_ ?_); · omega) | refine ev_bd rfl ?_ | refine ev_bd0 rfl ?_) | ((with_reducible refine eI ?_); first | ((with_reducible refine ev_idxn ?_ ?_ ?_); (· rfl); · omega) | (refine ev_idxon rfl rfl ?_ ?_; (· first | omega | (simp only [List.length_cons, List.length_nil, List.length_map, List.length_append]; omega))) | (refine ev_idxfn rfl rfl ?_ ?_; (focus omega)) | ((with_reducible refine ev_idx ?_ ?_ ?_); (· rfl); · omega) | (refine ev_idxo rfl rfl ?_ ?_; (· first | omega | (simp only [List.length_cons, List.length_nil, List.length_map, List.length_append]; omega))) | (refine ev_idxf rfl rfl ?_ ?_; (focus omega)) | refine ev_bd rfl ?_ | refine ev_bd0 rfl ?_) | ((with_reducible refine eC ?_); first | ((refine ev_callD (s_bears1 _ _ _ _ _ _) rfl rfl ?_ rfl rfl ?_ ?_); (focus first | exact .inl rfl | exact .inr rfl | (refine .inr ?_; simp [flagC, ownF, hasSl3, hasSl1, SO.hasSl, List.all_map, flatSV, SV.cells, Function.comp_def]; done)); (all_goals (intro h)); (all_goals (try (exfalso; first | omega | exact h rfl | exact h ⟨rfl, rfl, rfl⟩))))) | (with_reducible refine ev_callee ?_) | ((with_reducible refine eK ?_); first | (with_reducible first | refine ev_ct ?_ | refine ev_cf ?_) | ((with_reducible refine ev_cond ?_ ?_) <;> intro h)) | ((with_reducible refine eO ?_); first | refine ev_bd rfl ?_ | (refine ev_bdB rfl ?_ ?_ <;> intro h <;> try (exfalso; simp_all; done)) | refine ev_bd0 rfl ?_ | (refine ev_ldm rfl ?_ rfl ?_; (focus omega)) | (refine ev_ldmB rfl ?_ rfl ?_ ?_; (focus omega); (all_goals intro h))) | ((with_reducible refine eD ?_); first | refine ev_bd rfl ?_ | refine ev_bd0 rfl ?_) | ((with_reducible refine ih ?_ (all_step hp ?_) _ _ ?_) <;> (first | omega | assumption | (simp only [*, List.map_append, List.length_append, List.length_cons, List.length_nil, List.map_cons, List.map_nil]; done) | (simp_all; done) | (simp_all; omega))) | refine ev_ret rfl ?_)
  · exact ⟨_, rfl, rfl, ⟨fun _ => ⟨_, nth_mem (l := s) (k := i) (by omega), h⟩, fun _ => by omega⟩⟩
  · refine ⟨_, rfl, rfl, ⟨fun h9 => by omega, fun h9 => ?_⟩⟩
    obtain ⟨q, hq, h8⟩ := h9
    obtain ⟨j, hj, rfl⟩ := mem_nth hq
    exact absurd h8 (hp j (by omega))
theorem s_IxPkg (s : List TPkg) (hs : s.length ≤ 2000000) (dn dl : Int) : ∃ z : Int, (0 ≤ z ↔ bearsP s dn dl) ∧ Ex (fun m => callF prg m 65 [.sl 4 (s.map ePkg), .fn 56 [.ptr 0 0]] [.box [iI dn, iI dl]]) (iI z) [.box [iI dn, iI dl]] := by
  have key : Ev (fun m => callF prg m 65 [.sl 4 (s.map ePkg), .fn 56 [.ptr 0 0]] [.box [iI dn, iI dl]]) (fun y os => ∃ z : Int, y = iI z ∧ os = [.box [iI dn, iI dl]] ∧ (0 ≤ z ↔ bearsP s dn dl)) := by
    (refine U65 (nl := 1) rfl ?_; unfold B65)
    repeat' (first | ((with_reducible refine eL ?_); first | ((with_reducible refine ev_lenm ?_ ?_); · rfl) | refine ev_lenom rfl rfl ?_ | refine ev_lenfm rfl rfl ?_ | refine ev_lenoc rfl rfl rfl ?_ | refine ev_lenc rfl rfl ?_ | refine ev_leno rfl rfl ?_ | refine ev_slen rfl ?_ | refine ev_bd rfl ?_ | refine ev_bd0 rfl ?_) | ((with_reducible refine eD ?_); first | refine ev_bd rfl ?_ | refine ev_bd0 rfl ?_) | ( exact s_IxPkg_L s hs dn dl 0 (by omega) (fun j hj => by omega) 0 0 rfl) | refine ev_ret rfl ?_)
  obtain ⟨_, _, ⟨z, rfl, rfl, hz⟩, he⟩ := key
  exact ⟨z, hz, he⟩
theorem s_CtPkg (s : List TPkg) (hs : s.length ≤ 2000000) (dn dl : Int) : Ex (fun m => callF prg m 55 [.sl 4 (s.map ePkg), .fn 56 [.ptr 0 0]] [.box [iI dn, iI dl]]) (bB (decide (bearsP s dn dl))) [.box [iI dn, iI dl]] := by
  refine ev_is.1 ?_
  (refine U55 (nl := 1) rfl ?_; unfold B55)
  repeat' (first | ((with_reducible refine eB ?_); first | ((with_reducible refine ev_geq ?_ ?_) <;> intro h <;> try (exfalso; omega)) | refine ev_bd rfl ?_ | refine ev_bd0 rfl ?_) | ((with_reducible refine eC ?_); first | ((refine ev_callN (s_IxPkg s hs dn dl) rfl rfl ?_ (fun _ => rfl) ?_); (· first | exact .inl rfl | exact .inr (fun _ => rfl)); (first | (have q0 := z3; clear q0; intro z4 hz4) | (have q0 := z2; clear q0; intro z3 hz3) | (have q0 := z; clear q0; intro z2 hz2) | (intro z hz)))) | ((with_reducible refine eD ?_); first | refine ev_bd rfl ?_ | refine ev_bd0 rfl ?_) | refine ev_ret rfl ?_)
  all_goals exact ⟨congrArg bB (by simp [← hz]; omega), rfl⟩
theorem s_bears (s : List TPkg) (hs : s.length ≤ 2000000) (dn dl : Int) : Ex (fun m => callF prg m 35 [.sl 4 (s.map ePkg), .ag [iI dn, iI dl]] []) (bB (decide (bearsP s dn dl))) [] := by
  refine ev_is.1 ?_
  (refine U35 (nl := 0) rfl ?_; unfold B35)
  repeat' (first | ((with_reducible refine eC ?_); first | ((refine ev_callD (s_CtPkg s hs dn dl) rfl rfl ?_ rfl rfl ?_ ?_); (focus first | exact .inl rfl | exact .inr rfl | (refine .inr ?_; simp [flagC, ownF, hasSl3, hasSl1, SO.hasSl, List.all_map, flatSV, SV.cells, Function.comp_def]; done)); (all_goals (intro h)); (all_goals (try (exfalso; first | omega | exact h rfl | exact h ⟨rfl, rfl, rfl⟩))))) | ((with_reducible refine eD ?_); first | refine ev_bd rfl ?_ | refine ev_bd0 rfl ?_) | refine ev_ret rfl ?_)
  all_goals exact ⟨congrArg bB (by simp [h]), rfl⟩
theorem s_PlanOk1 (s : List TPkg) (hs : s.length ≤ 2000000) (dn dl : Int) : Ex (fun m => callF prg m 34 [.ag [iI dn, iI dl], .ptr 0 0] [.box [.sl 4 (s.map ePkg)]]) (bB (decide (¬ bearsP s dn dl))) [.box [.sl 4 (s.map ePkg)]] := by
  refine ev_is.1 ?_
  (refine U34 (nl := 1) rfl ?_; unfold B34)
  repeat' (first | ((with_reducible refine eC ?_); first | ((refine ev_callD (s_bears s hs dn dl) rfl rfl ?_ rfl rfl ?_ ?_); (focus first | exact .inl rfl | exact .inr rfl | (refine .inr ?_; simp [flagC, ownF, hasSl3, hasSl1, SO.hasSl, List.all_map, flatSV, SV.cells, Function.comp_def]; done)); (all_goals (intro h)); (all_goals (try (exfalso; first | omega | exact h rfl | exact h ⟨rfl, rfl, rfl⟩))))) | ((with_reducible refine eO ?_); first | refine ev_bd rfl ?_ | (refine ev_bdB rfl ?_ ?_ <;> intro h <;> try (exfalso; simp_all; done)) | refine ev_bd0 rfl ?_ | (refine ev_ldm rfl ?_ rfl ?_; (focus omega)) | (refine ev_ldmB rfl ?_ rfl ?_ ?_; (focus omega); (all_goals intro h))) | ((with_reducible refine eD ?_); first | refine ev_bd rfl ?_ | refine ev_bd0 rfl ?_) | refine ev_ret rfl ?_)
  all_goals exact ⟨congrArg bB (by simp [h]), rfl⟩
theorem s_IxDep_L (s : List TPkg) (hs : s.length ≤ 2000000) (D : List TDep) (hD : D.length ≤ 2000000) : ∀ i, i ≤ D.length → (∀ j, j < i → bearsP s (nth D j).name (nth D j).least) → ∀ (k : Int) (c : Nat), k = i →
    Ev (fun n => L54_2 (callF prg n) (n + 1) 1 (n + 1 - c) (.sl 2 (D.map eDep)) (.fn 34 [.ptr 0 0]) (iI D.length) (iI k) [.box [.sl 4 (s.map ePkg)]]) (fun y os => ∃ z : Int, y = iI z ∧ os = [.box [.sl 4 (s.map ePkg)]] ∧ (0 ≤ z ↔ ¬ ∀ j, j < D.length → bearsP s (nth D j).name (nth D j).least)) := by
  refine up_ind ?_
  intro i hi ih hp k c hk
  subst hk
  (refine UL54_2 ?_; unfold LB54_2)
  repeat' (first | ((with_reducible refine eB ?_); first | ((with_reducible refine ev_lss ?_ ?_) <;> intro h <;> try (exfalso; omega)) | ((with_reducible refine ev_add ?_ ?_); · omega) | refine ev_bd rfl ?_ | refine ev_bd0 rfl ?_) | ((with_reducible refine eI ?_); first | ((with_reducible refine ev_idxn ?_ ?_ ?_); (· rfl); · omega) | (refine ev_idxon rfl rfl ?_ ?_; (· first | omega | (simp only [List.length_cons, List.length_nil, List.length_map, List.length_append]; omega))) | (refine ev_idxfn rfl rfl ?_ ?_; (focus omega)) | ((with_reducible refine ev_idx ?_ ?_ ?_); (· rfl); · omega) | (refine ev_idxo rfl rfl ?_ ?_; (· first | omega | (simp only [List.length_cons, List.length_nil, List.length_map, List.length_append]; omega))) | (refine ev_idxf rfl rfl ?_ ?_; (focus omega)) | refine ev_bd rfl ?_ | refine ev_bd0 rfl ?_) | ((with_reducible refine eC ?_); first | ((refine ev_callD (s_PlanOk1 s hs _ _) rfl rfl ?_ rfl rfl ?_ ?_); (focus first | exact .inl rfl | exact .inr rfl | (refine .inr ?_; simp [flagC, ownF, hasSl3, hasSl1, SO.hasSl, List.all_map, flatSV, SV.cells, Function.comp_def]; done)); (all_goals (intro h)); (all_goals (try (exfalso; first | omega | exact h rfl | exact h ⟨rfl, rfl, rfl⟩))))) | (with_reducible refine ev_callee ?_) | ((with_reducible refine eK ?_); first | (with_reducible first | refine ev_ct ?_ | refine ev_cf ?_) | ((with_reducible refine ev_cond ?_ ?_) <;> intro h)) | ((with_reducible refine eO ?_); first | refine ev_bd rfl ?_ | (refine ev_bdB rfl ?_ ?_ <;> intro h <;> try (exfalso; simp_all; done)) | refine ev_bd0 rfl ?_ | (refine ev_ldm rfl ?_ rfl ?_; (focus omega)) | (refine ev_ldmB rfl ?_ rfl ?_ ?_; (focus omega); (all_goals intro h))) | ((with_reducible refine eD ?_); first | refine ev_bd rfl ?_ | refine ev_bd0 rfl ?_) | ((with_reducible refine ih ?_ (all_step hp ?_) _ _ ?_) <;> (first | omega | assumption | ((exact Decidable.not_not.1 h)) | (simp only [*, List.map_append, List.length_append, List.length_cons, List.length_nil, List.map_cons, List.map_nil]; done) | (simp_all; done) | (simp_all; omega))) | refine ev_ret rfl ?_)
  · exact ⟨_, rfl, rfl, ⟨fun _ h9 => h (h9 i (by omega)), fun _ => by omega⟩⟩
  · exact ⟨_, rfl, rfl, ⟨fun h9 => by omega, fun h9 => absurd (fun j hj => hp j (by omega)) h9⟩⟩
theorem s_IxDep (s : List TPkg) (hs : s.length ≤ 2000000) (D : List TDep) (hD : D.length ≤ 2000000) : ∃ z : Int, (0 ≤ z ↔ ¬ ∀ j, j < D.length → bearsP s (nth D j).name (nth D j).least) ∧ Ex (fun m => callF prg m 54 [.sl 2 (D.map eDep), .fn 34 [.ptr 0 0]] [.box [.sl 4 (s.map ePkg)]]) (iI z) [.box [.sl 4 (s.map ePkg)]] := by
  have key : Ev (fun m => callF prg m 54 [.sl 2 (D.map eDep), .fn 34 [.ptr 0 0]] [.box [.sl 4 (s.map ePkg)]]) (fun y os => ∃ z : Int, y = iI z ∧ os = [.box [.sl 4 (s.map ePkg)]] ∧ (0 ≤ z ↔ ¬ ∀ j, j < D.length → bearsP s (nth D j).name (nth D j).least)) := by
    (refine U54 (nl := 1) rfl ?_; unfold B54)
    repeat' (first | ((with_reducible refine eL ?_); first | ((with_reducible refine ev_lenm ?_ ?_); · rfl) | refine ev_lenom rfl rfl ?_ | refine ev_lenfm rfl rfl ?_ | refine ev_lenoc rfl rfl rfl ?_ | refine ev_lenc rfl rfl ?_ | refine ev_leno rfl rfl ?_ | refine ev_slen rfl ?_ | refine ev_bd rfl ?_ | refine ev_bd0 rfl ?_) | ((with_reducible refine eD ?_); first | refine ev_bd rfl ?_ | refine ev_bd0 rfl ?_) | ( exact s_IxDep_L s hs D hD 0 (by omega) (fun j hj => by omega) 0 0 rfl) | refine ev_ret rfl ?_)
  obtain ⟨_, _, ⟨z, rfl, rfl, hz⟩, he⟩ := key
  exact ⟨z, hz, he⟩
theorem s_CtDep (s : List TPkg) (hs : s.length ≤ 2000000) (D : List TDep) (hD : D.length ≤ 2000000) : Ex (fun m => callF prg m 33 [.sl 2 (D.map eDep), .fn 34 [.ptr 0 0]] [.box [.sl 4 (s.map ePkg)]]) (bB (decide (¬ ∀ j, j < D.length → bearsP s (nth D j).name (nth D j).least))) [.box [.sl 4 (s.map ePkg)]] := by
  refine ev_is.1 ?_
  (refine U33 (nl := 1) rfl ?_; unfold B33)
  repeat' (first | ((with_reducible refine eB ?_); first | ((with_reducible refine ev_geq ?_ ?_) <;> intro h <;> try (exfalso; omega)) | refine ev_bd rfl ?_ | refine ev_bd0 rfl ?_) | ((with_reducible refine eC ?_); first | ((refine ev_callN (s_IxDep s hs D hD) rfl rfl ?_ (fun _ => rfl) ?_); (· first | exact .inl rfl | exact .inr (fun _ => rfl)); (first | (have q0 := z3; clear q0; intro z4 hz4) | (have q0 := z2; clear q0; intro z3 hz3) | (have q0 := z; clear q0; intro z2 hz2) | (intro z hz)))) | ((with_reducible refine eD ?_); first | refine ev_bd rfl ?_ | refine ev_bd0 rfl ?_) | refine ev_ret rfl ?_)
  · exact ⟨congrArg bB (decide_eq_true (hz.1 h)).symm, rfl⟩
  · exact ⟨congrArg bB (decide_eq_false fun h9 => h (hz.2 h9)).symm, rfl⟩
end Go.Proofs.Ytlnenahbffkbiaa

/- Packages that can be in together: the program's function. -/
namespace Go.Proofs.Ytlnenahbffkbiaa
open Go
set_option linter.unusedVariables false
set_option linter.unusedSimpArgs false
set_option maxHeartbeats 4000000
theorem pkg_files {p : TPkg} (h : pkgOk p = true) : p.files.length ≤ 2 ∧ ∀ i, i < p.files.length → fileAt p.files i := by
  obtain ⟨-, -, h3, -⟩ := pkgOk_iff.1 h
  simp only [filesOk, filesAt, Bool.and_eq_true, decide_eq_true_eq] at h3
  exact h3
theorem pkg_deps {p : TPkg} (h : pkgOk p = true) : p.deps.length ≤ 2 ∧ ∀ i, i < p.deps.length → depAt p.name p.deps i := by
  obtain ⟨-, -, -, h3⟩ := pkgOk_iff.1 h
  simp only [depsOk, depsAt, Bool.and_eq_true, decide_eq_true_eq] at h3
  exact h3
theorem files_grow {p : TPkg} (h : pkgOk p = true) : ∀ j i, i < j → j < p.files.length → (nth p.files i).path < (nth p.files j).path := by
  obtain ⟨-, hf⟩ := pkg_files h
  intro j
  induction j with
  | zero => intro i hi; omega
  | succ j ih =>
    intro i hi hj
    have h1 := (hf (j + 1) hj).2.2 (by omega)
    simp only [Nat.add_sub_cancel] at h1
    by_cases e : i = j
    · subst e; exact h1
    · have := ih i (by omega) (by omega); omega
def sel6 (t0 t1 t2 t3 t4 t5 : Bool) (x : Int) : Bool := if x = 0 then t0 else if x = 1 then t1 else if x = 2 then t2 else if x = 3 then t3 else if x = 4 then t4 else t5
def usedAt (s : List TPkg) (i k : Nat) (x : Int) : Prop := ownedTo s i x ∨ ∃ j, j < k ∧ (nth (nth s i).files j).path = x
def Tk (s : List TPkg) (i k : Nat) (t0 t1 t2 t3 t4 t5 : Bool) : Prop := ∀ x, 0 ≤ x → x ≤ 5 → (sel6 t0 t1 t2 t3 t4 t5 x = true ↔ usedAt s i k x)
theorem used_step {s : List TPkg} {i k : Nat} {x : Int} : usedAt s i (k + 1) x ↔ usedAt s i k x ∨ (nth (nth s i).files k).path = x := by
  unfold usedAt
  constructor
  · rintro (h | ⟨j, hj, h⟩)
    · exact .inl (.inl h)
    · by_cases e : j = k
      · subst e; exact .inr h
      · exact .inl (.inr ⟨j, by omega, h⟩)
  · rintro ((h | ⟨j, hj, h⟩) | h)
    · exact .inl h
    · exact .inr ⟨j, by omega, h⟩
    · exact .inr ⟨k, by omega, h⟩
theorem used_end {s : List TPkg} {i : Nat} {x : Int} : usedAt s i (nth s i).files.length x ↔ usedAt s (i + 1) 0 x := by
  unfold usedAt
  rw [owned_step]
  constructor
  · rintro (h | ⟨j, hj, h⟩)
    · exact .inl (.inl h)
    · exact .inl (.inr ⟨_, nth_mem hj, h⟩)
  · rintro ((h | ⟨f, hf, h⟩) | ⟨j, hj, -⟩)
    · exact .inl h
    · obtain ⟨j, hj, rfl⟩ := mem_nth hf
      exact .inr ⟨j, hj, h⟩
    · omega
theorem s_PlanOkI_L10 (s : List TPkg) (hs : s.length ≤ 2000000) (hp0 : PL s) {Q : SV → List SO → Prop} (m5 : Nat → Nat) (i : Nat) (hi : i < s.length) (hpk : pkgOk (nth s i) = true)
    (hq : filesAtP s i → ∀ t0 t1 t2 t3 t4 t5, Tk s (i + 1) 0 t0 t1 t2 t3 t4 t5 → Ev (fun n => L14_5 (callF prg n) (n + 1) 0 (m5 n) (.ptr 0 0) (.ptr 1 0) (.sl 4 (s.map ePkg)) (iI s.length) (iI ((i : Int) + 1)) [.box [.sl 4 (s.map ePkg)], .box [bB t0, bB t1, bB t2, bB t3, bB t4, bB t5]]) Q) (hn : ¬ filesAtP s i → Q (bB false) []) :
    ∀ j, j ≤ (nth s i).files.length → (∀ k, k < j → ¬ ownedTo s i (nth (nth s i).files k).path) → ∀ (t0 t1 t2 t3 t4 t5 : Bool), Tk s i j t0 t1 t2 t3 t4 t5 → ∀ (k : Int) (c : Nat), k = j →
    Ev (fun n => G14_10 (callF prg n) (n + 1) 0 (m5 n) (n + 1 - c) [.ptr 0 0, .ptr 1 0, .sl 4 (s.map ePkg), iI s.length, iI i, .sl 2 ((nth s i).files.map eFile), iI (nth s i).files.length, iI k] [.box [.sl 4 (s.map ePkg)], .box [bB t0, bB t1, bB t2, bB t3, bB t4, bB t5]]) Q := by
  have hpi := hp0 i
  have hfa := (pkg_files hpk).2
  refine up_ind ?_
  intro j hj ih hp t0 t1 t2 t3 t4 t5 ht k c hk
  subst hk
  have h6 : j < (nth s i).files.length → (nth (nth s i).files j).path = 0 ∨ (nth (nth s i).files j).path = 1 ∨ (nth (nth s i).files j).path = 2 ∨ (nth (nth s i).files j).path = 3 ∨ (nth (nth s i).files j).path = 4 ∨ (nth (nth s i).files j).path = 5 := fun h => by
    have := hfa j h; unfold fileAt at this; omega
  have hno : ∀ x : Int, (nth (nth s i).files j).path = x → j < (nth s i).files.length → ¬ usedAt s i j x → ¬ ownedTo s i (nth (nth s i).files j).path := fun x e _ h h9 => h (.inl (e ▸ h9))
  have hyes : ∀ x : Int, (nth (nth s i).files j).path = x → j < (nth s i).files.length → usedAt s i j x → ¬ filesAtP s i := fun x e hj2 h h9 => by
    rcases h with h | ⟨y, hy, h⟩
    · exact h9 j hj2 (e ▸ h)
    · have := files_grow hpk j y hy hj2; omega
  (refine UG14_10 _ ?_; unfold GB14_10)
  repeat' (first | ( ((with_reducible refine eO ?_); (refine ev_bdB rfl ?_ ?_ <;> intro h))) | ((with_reducible refine eB ?_); first | ((with_reducible refine ev_lss ?_ ?_) <;> intro h <;> try (exfalso; omega)) | ((with_reducible refine ev_add ?_ ?_); · omega) | refine ev_bd rfl ?_ | refine ev_bd0 rfl ?_) | ((with_reducible refine eI ?_); first | ((with_reducible refine ev_idxn ?_ ?_ ?_); (· rfl); · omega) | (refine ev_idxon rfl rfl ?_ ?_; (· first | omega | (simp only [List.length_cons, List.length_nil, List.length_map, List.length_append]; omega))) | (refine ev_idxfn rfl rfl ?_ ?_; (focus omega)) | ((with_reducible refine ev_idx ?_ ?_ ?_); (· rfl); · omega) | ( (rcases h6 (by omega) with e6 | e6 | e6 | e6 | e6 | e6 <;> (rw [e6]; refine ev_bd rfl ?_))) | (refine ev_idxo rfl rfl ?_ ?_; (· first | omega | (simp only [List.length_cons, List.length_nil, List.length_map, List.length_append]; omega))) | (refine ev_idxf rfl rfl ?_ ?_; (focus omega)) | refine ev_bd rfl ?_ | refine ev_bd0 rfl ?_) | ((with_reducible refine eK ?_); first | (with_reducible first | refine ev_ct ?_ | refine ev_cf ?_) | ((with_reducible refine ev_cond ?_ ?_) <;> intro h)) | ((with_reducible refine eO ?_); first | refine ev_bd rfl ?_ | (refine ev_bdB rfl ?_ ?_ <;> intro h <;> try (exfalso; simp_all; done)) | refine ev_bd0 rfl ?_ | (refine ev_ldm rfl ?_ rfl ?_; (focus omega)) | (refine ev_ldmB rfl ?_ rfl ?_ ?_; (focus omega); (all_goals intro h))) | ((with_reducible refine eD ?_); first | refine ev_bd rfl ?_ | refine ev_bd0 rfl ?_) | ((with_reducible refine eH ?_); first | refine ev_gcB rfl ?_) | (with_reducible first | refine UL14_10 ?_ | refine VL14_10 ?_) | ((with_reducible refine ih ?_ (all_step hp ?_) _ _ _ _ _ _ ?_ _ _ ?_) <;> (first | omega | assumption | ((first | (exact hno _ e6 (by omega) fun h9 => by have h8 := (ht _ (by omega) (by omega)).2 h9; simp [sel6] at h8; simp_all) | (intro x hx1 hx2; rw [used_step, ← ht x hx1 hx2, e6]; (obtain rfl | rfl | rfl | rfl | rfl | rfl : x = 0 ∨ x = 1 ∨ x = 2 ∨ x = 3 ∨ x = 4 ∨ x = 5 := by omega) <;> simp [sel6]))) | (simp only [*, List.map_append, List.length_append, List.length_cons, List.length_nil, List.map_cons, List.map_nil]; done) | (simp_all; done) | (simp_all; omega))) | ( exact hq (fun y hy => hp y (by omega)) _ _ _ _ _ _ (by (intro x hx1 hx2); (rw [ht x hx1 hx2, ← used_end]); (rw [show j = (nth s i).files.length by omega]))) | refine ev_ret rfl ?_)
  all_goals first
    | exact hn (hyes _ e6 (by omega) ((ht _ (by omega) (by omega)).1 (by simpa [sel6] using h)))
    | trace_state
theorem planAt_mk {s : List TPkg} {i : Nat} (a : oneAt s i) (b : depsAtP s i) (c : filesAtP s i) : planAt s i := ⟨a, b, c⟩
theorem s_PlanOkI_L5 (s : List TPkg) (hs : s.length ≤ 2000000) (hp0 : PL s) (hok : storeOk s = true) : ∀ i, i ≤ s.length → (∀ j, j < i → planAt s j) → ∀ (t0 t1 t2 t3 t4 t5 : Bool), Tk s i 0 t0 t1 t2 t3 t4 t5 → ∀ (k : Int) (c : Nat), k = i →
    Ev (fun n => G14_5 (callF prg n) (n + 1) 0 (n + 1 - c) [.ptr 0 0, .ptr 1 0, .sl 4 (s.map ePkg), iI s.length, iI k] [.box [.sl 4 (s.map ePkg)], .box [bB t0, bB t1, bB t2, bB t3, bB t4, bB t5]]) (Is (bB (planOk s)) []) := by
  refine up_ind ?_
  intro i hi ih hp t0 t1 t2 t3 t4 t5 ht k c hk
  subst hk
  have hpi := hp0 i
  have hnext : i < s.length → oneAt s i → depsAtP s i → filesAtP s i → ∀ u0 u1 u2 u3 u4 u5, Tk s (i + 1) 0 u0 u1 u2 u3 u4 u5 → ∀ c, Ev (fun n => L14_5 (callF prg n) (n + 1) 0 (n + 1 - c) (.ptr 0 0) (.ptr 1 0) (.sl 4 (s.map ePkg)) (iI s.length) (iI ((i : Int) + 1)) [.box [.sl 4 (s.map ePkg)], .box [bB u0, bB u1, bB u2, bB u3, bB u4, bB u5]]) (Is (bB (planOk s)) []) := by
    intro hi2 ho hd hf u0 u1 u2 u3 u4 u5 hu c
    repeat' (first | ((with_reducible refine eG ?_); first | (with_reducible first | refine ev_gtt ?_ | refine ev_gff ?_ | refine ev_gtf ?_ | refine ev_gft ?_ | refine ev_gu ?_) | refine ev_bd rfl ?_ | refine ev_bd0 rfl ?_ | ((with_reducible refine ev_gB ?_ ?_) <;> intro h)) | ((with_reducible refine eB ?_); first | ((with_reducible first | refine ev_lss ?_ ?_ | refine ev_leq ?_ ?_ | refine ev_gtr ?_ ?_ | refine ev_geq ?_ ?_ | refine ev_eql ?_ ?_ | refine ev_neq ?_ ?_) <;> intro h <;> try (exfalso; omega)) | ((with_reducible first | refine ev_add ?_ ?_ | refine ev_sub ?_ ?_ | refine ev_mul ?_ ?_); · omega) | ((with_reducible refine ev_quo ?_ ?_ ?_); (· omega); (· omega); intro x hx hx0 hx1) | ((with_reducible refine ev_rem ?_ ?_); (· omega); intro x hx hx0 hx1) | ((with_reducible first | refine ev_eql3 ?_ ?_ ?_ | refine ev_neq3 ?_ ?_ ?_ | refine ev_eql2 ?_ ?_ ?_ | refine ev_neq2 ?_ ?_ ?_); (· rfl); all_goals intro h) | refine ev_bd rfl ?_ | refine ev_bd0 rfl ?_) | ((with_reducible refine eL ?_); first | ((with_reducible refine ev_lenm ?_ ?_); · rfl) | refine ev_lenom rfl rfl ?_ | refine ev_lenfm rfl rfl ?_ | refine ev_lenoc rfl rfl rfl ?_ | refine ev_lenc rfl rfl ?_ | refine ev_leno rfl rfl ?_ | refine ev_slen rfl ?_ | refine ev_bd rfl ?_ | refine ev_bd0 rfl ?_) | ((with_reducible refine eI ?_); first | ((with_reducible refine ev_idxn ?_ ?_ ?_); (· rfl); · omega) | (refine ev_idxon rfl rfl ?_ ?_; (· first | omega | (simp only [List.length_cons, List.length_nil, List.length_map, List.length_append]; omega))) | (refine ev_idxfn rfl rfl ?_ ?_; (focus omega)) | ((with_reducible refine ev_idx ?_ ?_ ?_); (· rfl); · omega) | (refine ev_idxo rfl rfl ?_ ?_; (· first | omega | (simp only [List.length_cons, List.length_nil, List.length_map, List.length_append]; omega))) | (refine ev_idxf rfl rfl ?_ ?_; (focus omega)) | refine ev_bd rfl ?_ | refine ev_bd0 rfl ?_) | ((with_reducible refine eS ?_); first | ((with_reducible first | refine ev_slh ?_ ?_ ?_ | refine ev_sll ?_ ?_ ?_); (· rfl); · omega) | ((first | refine ev_slvh rfl rfl ?_ ?_ | refine ev_slvl rfl rfl ?_ ?_); (· first | omega | (simp only [List.length_cons, List.length_nil, List.length_map, List.length_append]; omega))) | refine ev_bd rfl ?_ | refine ev_bd0 rfl ?_) | ((with_reducible refine eC ?_); first | fail) | (with_reducible refine ev_callee ?_) | ((with_reducible refine eA ?_); first | (refine ev_app rfl rfl rfl rfl rfl ?_ ?_; · first | decide | (simp only [List.length_append, List.length_cons, List.length_nil, List.length_map, List.length_take, List.length_drop]; omega))) | ((with_reducible refine eV ?_); first | ((with_reducible refine ev_conv64 ?_ ?_ ?_ ?_); (· rfl); (· rfl); · omega) | refine ev_bd rfl ?_ | refine ev_bd0 rfl ?_) | ((with_reducible refine eK ?_); first | (with_reducible first | refine ev_ct ?_ | refine ev_cf ?_) | ((with_reducible refine ev_cond ?_ ?_) <;> intro h)) | ((with_reducible refine eO ?_); first | refine ev_bd rfl ?_ | (refine ev_bdB rfl ?_ ?_ <;> intro h <;> try (exfalso; simp_all; done)) | refine ev_bd0 rfl ?_ | (refine ev_ldm rfl ?_ rfl ?_; (focus omega)) | (refine ev_ldmB rfl ?_ rfl ?_ ?_; (focus omega); (all_goals intro h)) | (refine ev_ldz rfl rfl rfl ?_ ?_ ?_; (· simp); (· first | omega | (simp only [List.length_cons, List.length_nil, List.length_map, List.length_append]; omega)); intro w)) | ((with_reducible refine eD ?_); first | refine ev_bd rfl ?_ | refine ev_bd0 rfl ?_ | ((with_reducible refine ev_pickB ?_ ?_) <;> intro h)) | ((with_reducible refine ev_dchk ?_ ?_); · intro _; rfl) | ((with_reducible refine eH ?_); first | refine ev_gcB rfl ?_) | (with_reducible first | refine UL14_5 ?_ | refine VL14_5 ?_) | ((with_reducible refine ih ?_ (all_step hp (planAt_mk ho hd hf)) _ _ _ _ _ _ hu _ _ ?_) <;> (first | omega | assumption | (simp only [*, List.map_append, List.length_append, List.length_cons, List.length_nil, List.map_cons, List.map_nil]; done) | (simp_all; done) | (simp_all; omega))) | refine ev_ret rfl ?_)
  have hfail : i < s.length → ¬ planAt s i → Is (bB (planOk s)) [] (bB false) [] := fun hi2 h => by
    refine ⟨congrArg bB ?_, rfl⟩
    rw [planOk, hok, Bool.true_and]
    exact (all_false (i := i) hi2 h).symm
  have hone : i < s.length → (0 < i → (nth s (i - 1)).name ≠ (nth s i).name) → oneAt s i := fun hi2 h h0 => by
    have h1 := (storeOk_iff.1 hok i hi2).2 h0
    have h2 := h h0
    unfold pless at h1; omega
  (refine UG14_5 _ ?_; unfold GB14_5)
  repeat' (first | ((with_reducible refine eG ?_); first | (with_reducible first | refine ev_gtt ?_ | refine ev_gff ?_ | refine ev_gtf ?_ | refine ev_gft ?_ | refine ev_gu ?_) | refine ev_bd rfl ?_ | refine ev_bd0 rfl ?_ | ((with_reducible refine ev_gB ?_ ?_) <;> intro h)) | ((with_reducible refine eB ?_); first | ((with_reducible first | refine ev_lss ?_ ?_ | refine ev_gtr ?_ ?_ | refine ev_eql ?_ ?_) <;> intro h <;> try (exfalso; omega)) | ((with_reducible refine ev_sub ?_ ?_); · omega) | refine ev_bd rfl ?_ | refine ev_bd0 rfl ?_) | ((with_reducible refine eL ?_); first | ((with_reducible refine ev_lenm ?_ ?_); · rfl) | refine ev_lenom rfl rfl ?_ | refine ev_lenfm rfl rfl ?_ | refine ev_lenoc rfl rfl rfl ?_ | refine ev_lenc rfl rfl ?_ | refine ev_leno rfl rfl ?_ | refine ev_slen rfl ?_ | refine ev_bd rfl ?_ | refine ev_bd0 rfl ?_) | ((with_reducible refine eI ?_); first | ((with_reducible refine ev_idxn ?_ ?_ ?_); (· rfl); · omega) | (refine ev_idxon rfl rfl ?_ ?_; (· first | omega | (simp only [List.length_cons, List.length_nil, List.length_map, List.length_append]; omega))) | (refine ev_idxfn rfl rfl ?_ ?_; (focus omega)) | ((with_reducible refine ev_idx ?_ ?_ ?_); (· rfl); · omega) | (refine ev_idxo rfl rfl ?_ ?_; (· first | omega | (simp only [List.length_cons, List.length_nil, List.length_map, List.length_append]; omega))) | (refine ev_idxf rfl rfl ?_ ?_; (focus omega)) | refine ev_bd rfl ?_ | refine ev_bd0 rfl ?_) | ((with_reducible refine eC ?_); first | ((refine ev_callD (s_CtDep s hs _ hpi.2) rfl rfl ?_ rfl rfl ?_ ?_); (focus first | exact .inl rfl | exact .inr rfl | (refine .inr ?_; simp [flagC, ownF, hasSl3, hasSl1, SO.hasSl, List.all_map, flatSV, SV.cells, Function.comp_def]; done)); (all_goals (intro h)); (all_goals (try (exfalso; first | omega | exact h rfl | exact h ⟨rfl, rfl, rfl⟩))))) | ((with_reducible refine eK ?_); first | (with_reducible first | refine ev_ct ?_ | refine ev_cf ?_) | ((with_reducible refine ev_cond ?_ ?_) <;> intro h)) | ((with_reducible refine eO ?_); first | refine ev_bd rfl ?_ | (refine ev_bdB rfl ?_ ?_ <;> intro h <;> try (exfalso; simp_all; done)) | refine ev_bd0 rfl ?_ | (refine ev_ldm rfl ?_ rfl ?_; (focus omega)) | (refine ev_ldmB rfl ?_ rfl ?_ ?_; (focus omega); (all_goals intro h))) | ((with_reducible refine eD ?_); first | refine ev_bd rfl ?_ | refine ev_bd0 rfl ?_ | ((with_reducible refine ev_pickB ?_ ?_) <;> intro h)) | ((with_reducible refine eH ?_); first | refine ev_gcB rfl ?_) | (with_reducible first | refine UL14_10 ?_ | refine VL14_10 ?_) | refine ev_ret rfl ?_)
  all_goals first
    | exact hfail (by omega) fun h9 => by have := h9.1 (by omega); (try simp only [Int.toNat_natCast, tn_sub1, tn_add1] at *); omega
    | exact hfail (by omega) fun h9 => h h9.2.1
    | exact ⟨congrArg bB (by rw [planOk, hok, Bool.true_and]; exact (all_true hp (by omega)).symm), rfl⟩
    | skip
  all_goals exact s_PlanOkI_L10 s hs hp0 _ i (by omega) (storeOk_iff.1 hok i (by omega)).1 (fun hf u0 u1 u2 u3 u4 u5 hu => hnext (by omega) (hone (by omega) (by (try simp only [Int.toNat_natCast, tn_sub1, tn_add1] at *); omega)) (fun j hj => Decidable.not_not.1 h j hj) hf u0 u1 u2 u3 u4 u5 hu _) (fun h9 => hfail (by omega) fun h8 => h9 h8.2.2) 0 (by omega) (fun k hk => by omega) _ _ _ _ _ _ ht 0 _ rfl
theorem s_PlanOkI (s : List TPkg) (hs : s.length ≤ 2000000) (hp0 : PL s) : Ex (fun m => callF prg m 14 [.sl 4 (s.map ePkg)] []) (bB (planOk s)) [] := by
  refine ev_is.1 ?_
  (refine U14 (nl := 0) rfl ?_; unfold B14)
  repeat' (first | ((with_reducible refine eL ?_); first | ((with_reducible refine ev_lenm ?_ ?_); · rfl) | refine ev_lenom rfl rfl ?_ | refine ev_lenfm rfl rfl ?_ | refine ev_lenoc rfl rfl rfl ?_ | refine ev_lenc rfl rfl ?_ | refine ev_leno rfl rfl ?_ | refine ev_slen rfl ?_ | refine ev_bd rfl ?_ | refine ev_bd0 rfl ?_) | ((with_reducible refine eC ?_); first | ((refine ev_callB (s_StoreOkI s hs hp0) rfl rfl ?_ rfl rfl ?_ ?_); (focus first | exact .inl rfl | exact .inr rfl | (refine .inr ?_; simp [flagC, ownF, hasSl3, hasSl1, SO.hasSl, List.all_map, flatSV, SV.cells, Function.comp_def]; done)); (all_goals (intro h)); (all_goals (try (exfalso; simp_all; done))))) | ((with_reducible refine eK ?_); first | (with_reducible first | refine ev_ct ?_ | refine ev_cf ?_) | ((with_reducible refine ev_cond ?_ ?_) <;> intro h)) | ((with_reducible refine eO ?_); first | refine ev_bd rfl ?_ | (refine ev_bdB rfl ?_ ?_ <;> intro h <;> try (exfalso; simp_all; done)) | refine ev_bd0 rfl ?_ | (refine ev_ldm rfl ?_ rfl ?_; (focus omega)) | (refine ev_ldmB rfl ?_ rfl ?_ ?_; (focus omega); (all_goals intro h))) | ((with_reducible refine eD ?_); first | refine ev_bd rfl ?_ | refine ev_bd0 rfl ?_) | ((with_reducible refine eH ?_); first | refine ev_gcB rfl ?_) | (with_reducible first | refine UL14_5 ?_ | refine VL14_5 ?_) | ( exact s_PlanOkI_L5 s hs hp0 (by assumption) 0 (by omega) (fun j hj => by omega) _ _ _ _ _ _ (by (intro x h1 h2); (constructor); (· intro h9; simp [sel6] at h9); (· rintro (⟨j, hj, -⟩ | ⟨j, hj, -⟩) <;> omega)) 0 _ rfl) | refine ev_ret rfl ?_)
  all_goals first
    | (refine ⟨congrArg bB ?_, rfl⟩; simp [planOk, *]; done)
    | trace_state
end Go.Proofs.Ytlnenahbffkbiaa

/- What is to be in for a name to be: what the reference gives. -/
namespace Go.Proofs.Ytlnenahbffkbiaa
open Go
set_option linter.unusedVariables false
set_option linter.unusedSimpArgs false
set_option maxHeartbeats 4000000
def pickP (st hv : List TPkg) (n : Int) : TPkg × Bool :=
  if (newestP st n).2 = true ∧ ((newestP hv n).2 = false ∨ (newestP hv n).1.ver < (newestP st n).1.ver) then ((newestP st n).1, true) else newestP hv n
theorem s_l13Is (s : List TPkg) (hs : s.length ≤ 2000000) (hp0 : PL s) (name : Int) : Ex (fun m => callF prg m 44 [.sl 4 (s.map ePkg), iI name] []) (bB (newestP s name).2) [] := by
  refine ev_is.1 ?_
  (refine U44 (nl := 0) rfl ?_; unfold B44)
  repeat' (first | ((with_reducible refine eC ?_); first | ((refine ev_callE (s_l12Newest s hs hp0 name) rfl rfl ?_); ((rintro _ _ ⟨p, ok, h1, rfl, rfl⟩) <;> (first | (refine ev_post ?_ rfl ?_; (focus first | exact .inl rfl | exact .inr rfl | (refine .inr ?_; simp [flagC, ownF, hasSl3, hasSl1, SO.hasSl, List.all_map, flatSV, SV.cells, Function.comp_def]; done))) | (refine ev_postF ?_ rfl ?_; (focus first | rfl | (simp [flagC, ownF, hasSl3, hasSl1, SO.hasSl, List.all_map, flatSV, SV.cells, Function.comp_def]; done))))))) | ((with_reducible refine eD ?_); first | refine ev_bd rfl ?_ | refine ev_bd0 rfl ?_) | refine ev_ret rfl ?_)
  all_goals exact ⟨congrArg bB (by rw [h1]), rfl⟩
theorem s_l13Pick (st hv : List TPkg) (hs : st.length ≤ 2000000) (hp0 : PL st) (hs2 : hv.length ≤ 2000000) (hp2 : PL hv) (name : Int) : Ev (fun m => callF prg m 45 [.sl 4 (st.map ePkg), .sl 4 (hv.map ePkg), iI name] []) (QNew (pickP st hv name)) := by
  (refine U45 (nl := 0) rfl ?_; unfold B45)
  repeat' (first | ((with_reducible refine eG ?_); first | (with_reducible first | refine ev_gtt ?_ | refine ev_gff ?_ | refine ev_gtf ?_ | refine ev_gft ?_ | refine ev_gu ?_) | refine ev_bd rfl ?_ | refine ev_bd0 rfl ?_ | ((with_reducible refine ev_gB ?_ ?_) <;> intro h)) | ((with_reducible refine eB ?_); first | ((with_reducible refine ev_gtr ?_ ?_) <;> intro h <;> try (exfalso; omega)) | refine ev_bd rfl ?_ | refine ev_bd0 rfl ?_) | ((with_reducible refine eC ?_); first | ((refine ev_callE (s_l12Newest st hs hp0 name) rfl rfl ?_); ((rintro _ _ ⟨p, ok, h1, rfl, rfl⟩) <;> ((rcases ok with _ | _)) <;> (first | (refine ev_post ?_ rfl ?_; (focus first | exact .inl rfl | exact .inr rfl | (refine .inr ?_; simp [flagC, ownF, hasSl3, hasSl1, SO.hasSl, List.all_map, flatSV, SV.cells, Function.comp_def]; done))) | (refine ev_postF ?_ rfl ?_; (focus first | rfl | (simp [flagC, ownF, hasSl3, hasSl1, SO.hasSl, List.all_map, flatSV, SV.cells, Function.comp_def]; done)))))) | ((refine ev_callE (s_l12Newest hv hs2 hp2 name) rfl rfl ?_); ((rintro _ _ ⟨p2, ok2, h2, rfl, rfl⟩) <;> ((rcases ok2 with _ | _)) <;> (first | (refine ev_post ?_ rfl ?_; (focus first | exact .inl rfl | exact .inr rfl | (refine .inr ?_; simp [flagC, ownF, hasSl3, hasSl1, SO.hasSl, List.all_map, flatSV, SV.cells, Function.comp_def]; done))) | (refine ev_postF ?_ rfl ?_; (focus first | rfl | (simp [flagC, ownF, hasSl3, hasSl1, SO.hasSl, List.all_map, flatSV, SV.cells, Function.comp_def]; done))))))) | ((with_reducible refine eK ?_); first | (with_reducible first | refine ev_ct ?_ | refine ev_cf ?_) | ((with_reducible refine ev_cond ?_ ?_) <;> intro h)) | ((with_reducible refine eO ?_); first | refine ev_bd rfl ?_ | (refine ev_bdB rfl ?_ ?_ <;> intro h <;> try (exfalso; simp_all; done)) | refine ev_bd0 rfl ?_ | (refine ev_ldm rfl ?_ rfl ?_; (focus omega)) | (refine ev_ldmB rfl ?_ rfl ?_ ?_; (focus omega); (all_goals intro h))) | ((with_reducible refine eD ?_); first | refine ev_bd rfl ?_ | refine ev_bd0 rfl ?_ | ((with_reducible refine ev_pickB ?_ ?_) <;> intro h)) | (with_reducible refine ev_bothI ?_ ?_) | refine ev_ret rfl ?_)
  all_goals (refine ⟨_, _, ?_, rfl, rfl⟩; simp [pickP, h1, h2, *])
theorem pick_true {st hv : List TPkg} {n : Int} {p : TPkg} (h : pickP st hv n = (p, true)) : p.name = n ∧ (p ∈ st ∨ p ∈ hv) := by
  unfold pickP at h
  split at h
  · rename_i h0
    obtain ⟨rfl, -⟩ := Prod.mk.inj h
    obtain ⟨h1, h2, -⟩ := newest_true (s := st) (name := n) (p := (newestP st n).1) (Prod.ext rfl h0.1)
    exact ⟨h2, .inl h1⟩
  · obtain ⟨h1, h2, -⟩ := newest_true h
    exact ⟨h2, .inr h1⟩
inductive Reach (st hv : List TPkg) (name : Int) : Int → Prop
  | this : Reach st hv name name
  | was {p : TPkg} : p ∈ hv → Reach st hv name p.name
  | need {n : Int} {p : TPkg} {d : TDep} : Reach st hv name n → pickP st hv n = (p, true) → d ∈ p.deps → Reach st hv name d.name
noncomputable def reachB (st hv : List TPkg) (name n : Int) : Bool := @decide (Reach st hv name n) (Classical.propDecidable _)
theorem reachB_iff {st hv : List TPkg} {name n : Int} : reachB st hv name n = true ↔ Reach st hv name n := by
  unfold reachB; exact @decide_eq_true_iff _ (Classical.propDecidable _)
def allPick (st hv : List TPkg) (name : Int) : Prop := ∀ n, Reach st hv name n → (pickP st hv n).2 = true
noncomputable def outP (st hv : List TPkg) (name : Int) : List TPkg := (([1, 2, 3, 4] : List Int).filter (reachB st hv name)).map fun n => (pickP st hv n).1
open Classical in
noncomputable def forP (st hv : List TPkg) (name : Int) : List TPkg × Bool := if allPick st hv name ∧ planOk (outP st hv name) = true then (outP st hv name, true) else ([], false)
theorem forP_no {st hv : List TPkg} {name : Int} (h : ¬ (allPick st hv name ∧ planOk (outP st hv name) = true)) : forP st hv name = ([], false) := by unfold forP; rw [if_neg h]
theorem forP_yes {st hv : List TPkg} {name : Int} (h1 : allPick st hv name) (h2 : planOk (outP st hv name) = true) : forP st hv name = (outP st hv name, true) := by unfold forP; rw [if_pos ⟨h1, h2⟩]
def srt (l : List TPkg) : Prop := l.Pairwise fun a b => a.name < b.name
theorem srt_ext : ∀ {l m : List TPkg}, srt l → srt m → (∀ x, x ∈ l ↔ x ∈ m) → l = m
  | [], [], _, _, _ => rfl
  | [], y :: m, _, _, h => by have := (h y).2 (by simp); cases this
  | x :: l, [], _, _, h => by have := (h x).1 (by simp); cases this
  | x :: l, y :: m, h1, h2, h => by
    obtain ⟨a1, a2⟩ := List.pairwise_cons.1 h1
    obtain ⟨b1, b2⟩ := List.pairwise_cons.1 h2
    have e : x = y := by
      rcases List.mem_cons.1 ((h x).1 (by simp)) with e | hx
      · exact e
      · rcases List.mem_cons.1 ((h y).2 (by simp)) with e | hy
        · exact e.symm
        · have := a1 y hy; have := b1 x hx; omega
    subst e
    refine congrArg _ (srt_ext a2 b2 fun z => ?_)
    constructor
    · intro hz
      rcases List.mem_cons.1 ((h z).1 (List.mem_cons_of_mem _ hz)) with e | hz2
      · subst e; have := a1 _ hz; omega
      · exact hz2
    · intro hz
      rcases List.mem_cons.1 ((h z).2 (List.mem_cons_of_mem _ hz)) with e | hz2
      · subst e; have := b1 _ hz; omega
      · exact hz2
theorem srt_len : ∀ {l : List TPkg} {lo : Int}, srt l → (∀ p, p ∈ l → lo ≤ p.name ∧ p.name ≤ 4) → lo ≤ 5 → (l.length : Int) ≤ 5 - lo
  | [], lo, _, _, h => by simp; omega
  | x :: l, lo, h1, h2, h => by
    obtain ⟨a1, a2⟩ := List.pairwise_cons.1 h1
    have hx := h2 x (by simp)
    have := srt_len (l := l) (lo := x.name + 1) a2 (fun p hp => ⟨by have := a1 p hp; omega, (h2 p (List.mem_cons_of_mem _ hp)).2⟩) (by omega)
    simp only [List.length_cons]; omega
theorem mem_with {l : List TPkg} {p : TPkg} (h : ∀ x, x ∈ l → x.name ≠ p.name) (y : TPkg) : y ∈ withP l p ↔ y ∈ l ∨ y = p := by
  simp only [withP, List.mem_append, List.mem_filter, List.mem_singleton, decide_eq_true_eq]
  constructor
  · rintro ((⟨a, -⟩ | a) | ⟨a, -⟩)
    · exact .inl a
    · exact .inr a
    · exact .inl a
  · rintro (a | a)
    · have := h y a
      unfold pless
      by_cases e : y.name < p.name
      · exact .inl (.inl ⟨a, .inl e⟩)
      · exact .inr ⟨a, .inl (by omega)⟩
    · exact .inl (.inr a)
theorem srt_with {l : List TPkg} {p : TPkg} (hs : srt l) (h : ∀ x, x ∈ l → x.name ≠ p.name) : srt (withP l p) := by
  unfold srt withP
  rw [List.pairwise_append, List.pairwise_append]
  refine ⟨⟨hs.filter _, by simp, ?_⟩, hs.filter _, ?_⟩
  · intro a ha b hb
    obtain ⟨a1, a2⟩ := List.mem_filter.1 ha
    obtain rfl := List.mem_singleton.1 hb
    have := h a a1
    have a3 := of_decide_eq_true a2; unfold pless at a3; omega
  · intro a ha b hb
    obtain ⟨b1, b2⟩ := List.mem_filter.1 hb
    have hb3 := h b b1
    have b4 := of_decide_eq_true b2; unfold pless at b4
    rcases List.mem_append.1 ha with ha | ha
    · obtain ⟨a1, a2⟩ := List.mem_filter.1 ha
      have := h a a1
      have a3 := of_decide_eq_true a2; unfold pless at a3; omega
    · obtain rfl := List.mem_singleton.1 ha; omega
theorem len_with {l : List TPkg} {p : TPkg} (h : ∀ x, x ∈ l → x.name ≠ p.name) : (withP l p).length = l.length + 1 := by
  have key : ∀ l : List TPkg, (∀ x, x ∈ l → x.name ≠ p.name) → (l.filter fun x => decide (pless x p)).length + (l.filter fun x => decide (pless p x)).length = l.length := by
    intro l
    induction l with
    | nil => intro _; rfl
    | cons x xs ih =>
      intro hh
      have h1 := ih fun y hy => hh y (List.mem_cons_of_mem _ hy)
      have h2 := hh x (by simp)
      by_cases e : x.name < p.name
      · have e1 : pless x p := .inl e
        have e2 : ¬ pless p x := by unfold pless; omega
        simp only [List.filter_cons, e1, e2, decide_true, decide_false, if_true, List.length_cons]
        simp; omega
      · have e1 : ¬ pless x p := by unfold pless; omega
        have e2 : pless p x := .inl (by omega)
        simp only [List.filter_cons, e1, e2, decide_true, decide_false, if_true, List.length_cons]
        simp; omega
  have := key l h
  simp only [withP, List.length_append, List.length_cons, List.length_nil]; omega
theorem reach_in {st hv : List TPkg} {name : Int} (hn : 1 ≤ name ∧ name ≤ 4) (ht : tames st) (ht2 : tames hv) {n : Int} (h : Reach st hv name n) : 1 ≤ n ∧ n ≤ 4 := by
  cases h with
  | this => exact hn
  | was hp => exact (ht2 _ hp).1
  | need h1 h2 h3 =>
    rcases (pick_true h2).2 with e | e
    · exact (ht _ e).2 _ h3
    · exact (ht2 _ e).2 _ h3
theorem outP_mem {st hv : List TPkg} {name : Int} (hn : 1 ≤ name ∧ name ≤ 4) (ht : tames st) (ht2 : tames hv) (ha : allPick st hv name) {p : TPkg} : p ∈ outP st hv name ↔ Reach st hv name p.name ∧ pickP st hv p.name = (p, true) := by
  unfold outP
  rw [List.mem_map]
  constructor
  · rintro ⟨n, h1, rfl⟩
    obtain ⟨-, h2⟩ := List.mem_filter.1 h1
    have h3 := reachB_iff.1 h2
    have h4 : pickP st hv n = ((pickP st hv n).1, true) := Prod.ext rfl (ha n h3)
    have h5 := (pick_true h4).1
    rw [h5]; exact ⟨h3, h4⟩
  · rintro ⟨h1, h2⟩
    have h3 := reach_in hn ht ht2 h1
    refine ⟨p.name, List.mem_filter.2 ⟨?_, reachB_iff.2 h1⟩, by rw [h2]⟩
    simp only [List.mem_cons, List.not_mem_nil, or_false]; omega
theorem outP_srt {st hv : List TPkg} {name : Int} (ha : allPick st hv name) : srt (outP st hv name) := by
  unfold outP srt
  rw [List.pairwise_map]
  have h1 : (([1, 2, 3, 4] : List Int).filter (reachB st hv name)).Pairwise (· < ·) := List.Pairwise.filter _ (by decide)
  refine List.Pairwise.imp_of_mem ?_ h1
  intro a b h2 h3 h4
  have key : ∀ n, n ∈ ([1, 2, 3, 4] : List Int).filter (reachB st hv name) → (pickP st hv n).1.name = n := fun n hn => by
    have h3 := reachB_iff.1 (List.mem_filter.1 hn).2
    exact (pick_true (p := (pickP st hv n).1) (Prod.ext rfl (ha n h3))).1
  rw [key a h2, key b h3]; exact h4
theorem outP_len (st hv : List TPkg) (name : Int) : (outP st hv name).length ≤ 4 := by
  unfold outP
  rw [List.length_map]
  exact List.length_filter_le _ _
theorem forP_mem {st hv : List TPkg} {name : Int} {r : List TPkg} {ok : Bool} (h : forP st hv name = (r, ok)) : r.length ≤ 4 ∧ ∀ p, p ∈ r → p ∈ st ∨ p ∈ hv := by
  by_cases hc : allPick st hv name ∧ planOk (outP st hv name) = true
  · rw [forP_yes hc.1 hc.2] at h
    obtain ⟨rfl, -⟩ := Prod.mk.inj h
    refine ⟨outP_len _ _ _, fun p hp => ?_⟩
    unfold outP at hp
    obtain ⟨n, h1, rfl⟩ := List.mem_map.1 hp
    have h3 := reachB_iff.1 (List.mem_filter.1 h1).2
    exact (pick_true (p := (pickP st hv n).1) (Prod.ext rfl (hc.1 n h3))).2
  · rw [forP_no hc] at h
    obtain ⟨rfl, -⟩ := Prod.mk.inj h
    exact ⟨by simp, fun p hp => by cases hp⟩
structure ForInv (st hv : List TPkg) (name : Int) (w : List Bool) (out : List TPkg) : Prop where
  len : w.length = 5
  sound : ∀ x : Int, 1 ≤ x → x ≤ 4 → nth w x.toNat = true → Reach st hv name x
  nm : nth w name.toNat = true
  hvs : ∀ p, p ∈ hv → nth w p.name.toNat = true
  deps : ∀ p, p ∈ out → ∀ d, d ∈ p.deps → nth w d.name.toNat = true
  outp : ∀ p, p ∈ out → pickP st hv p.name = (p, true) ∧ (1 ≤ p.name ∧ p.name ≤ 4) ∧ Reach st hv name p.name
  so : srt out
theorem ForInv.le {st hv : List TPkg} {name : Int} {w : List Bool} {out : List TPkg} (h : ForInv st hv name w out) : out.length ≤ 4 := by
  have := srt_len (lo := 1) h.so (fun p hp => (h.outp p hp).2.1) (by omega)
  omega
theorem ForInv.all {st hv : List TPkg} {name : Int} {w : List Bool} {out : List TPkg} (h : ForInv st hv name w out) (hn : 1 ≤ name ∧ name ≤ 4) (ht : tames st) (ht2 : tames hv) (hd : ∀ m : Int, 1 ≤ m → m < 5 → nth w m.toNat = true → ∃ p, p ∈ out ∧ p.name = m) :
    allPick st hv name ∧ out = outP st hv name := by
  have key : ∀ n, Reach st hv name n → nth w n.toNat = true := by
    intro n hr
    induction hr with
    | this => exact h.nm
    | was hp => exact h.hvs _ hp
    | need h1 h2 h3 ih =>
      have hb := reach_in hn ht ht2 h1
      obtain ⟨q, hq, e⟩ := hd _ hb.1 (by omega) ih
      have h4 := (h.outp q hq).1
      rw [e, h2] at h4
      obtain ⟨rfl, -⟩ := Prod.mk.inj h4
      exact h.deps _ hq _ h3
  have hin : ∀ n, Reach st hv name n → ∃ p, p ∈ out ∧ p.name = n := fun n hr => by
    have hb := reach_in hn ht ht2 hr
    exact hd n hb.1 (by omega) (key n hr)
  have ha : allPick st hv name := fun n hr => by
    obtain ⟨p, hp, rfl⟩ := hin n hr
    rw [(h.outp p hp).1]
  refine ⟨ha, srt_ext h.so (outP_srt ha) fun x => ?_⟩
  rw [outP_mem hn ht ht2 ha]
  constructor
  · intro hx; exact ⟨(h.outp x hx).2.2, (h.outp x hx).1⟩
  · rintro ⟨h1, h2⟩
    obtain ⟨p, hp, e⟩ := hin _ h1
    have h4 := (h.outp p hp).1
    rw [e, h2] at h4
    obtain ⟨rfl, -⟩ := Prod.mk.inj h4
    exact hp
theorem nth_set {α : Type} [Inhabited α] (l : List α) (i j : Nat) (a : α) : nth (l.set i a) j = if i = j ∧ i < l.length then a else nth l j := by
  unfold nth
  simp only [List.getD_eq_getElem?_getD, List.getElem?_set]
  by_cases e : i = j
  · subst e
    by_cases h : i < l.length
    · simp [h]
    · simp [h]
  · simp [e]
def QFor (st hv : List TPkg) (name : Int) : SV → List SO → Prop := fun x os => ∃ r ok, forP st hv name = (r, ok) ∧ x = .tup [.osl 0, bB ok] ∧ os = [.arr false 4 (r.map ePkg)]
abbrev osF (w : List Bool) (out : List TPkg) (p : TPkg) : List SO := [.arr false 1 (w.map bB), .frz 4 (out.map ePkg), .frz 2 (p.files.map eFile), .frz 2 (p.deps.map eDep), .arr false 2 [], .arr false 2 [], .box [iI p.name, iI p.ver, .osl 2, .osl 3], .arr false 4 ((withP out p).map ePkg)]
theorem s_l13For_L17 (st hv out : List TPkg) (p : TPkg) (m9 : Nat → Nat) {Q : SV → List SO → Prop} (w0 : List Bool) (hd : depsIn p.deps) (hdl : p.deps.length ≤ 2000000)
    (hq : ∀ w : List Bool, w.length = 5 → (∀ x : Nat, nth w0 x = true → nth w x = true) → (∀ d, d ∈ p.deps → nth w d.name.toNat = true) → (∀ x : Nat, nth w x = true → nth w0 x = true ∨ ∃ d, d ∈ p.deps ∧ d.name.toNat = x) →
      Ev (fun n => J24_10 (callF prg n) (n + 1) 0 (m9 n) (.sl 4 (st.map ePkg)) (.sl 4 (hv.map ePkg)) (.osl 0) (.osl 7) (iI 0) (osF w out p)) Q) :
    ∀ j, j ≤ p.deps.length → ∀ w : List Bool, w.length = 5 → (∀ x : Nat, nth w0 x = true → nth w x = true) → (∀ k, k < j → nth w (nth p.deps k).name.toNat = true) → (∀ x : Nat, nth w x = true → nth w0 x = true ∨ ∃ d, d ∈ p.deps ∧ d.name.toNat = x) → ∀ (k : Int) (c : Nat), k = j →
      Ev (fun n => L24_17 (callF prg n) (n + 1) 0 (m9 n) (n + 1 - c) (.sl 4 (st.map ePkg)) (.sl 4 (hv.map ePkg)) (.osl 0) (.osl 7) (.ptr 6 0) (iI k) (osF w out p)) Q := by
  refine up_ind ?_
  intro j hj ih w hw h1 h2 h3 k c hk
  subst hk
  have hdj : j < p.deps.length → 1 ≤ (nth p.deps j).name ∧ (nth p.deps j).name ≤ 4 := fun h => hd _ (nth_mem h)
  (refine UL24_17 ?_; unfold LB24_17)
  repeat' (first | ((with_reducible refine eB ?_); first | ((with_reducible refine ev_lss ?_ ?_) <;> intro h <;> try (exfalso; omega)) | ((with_reducible refine ev_add ?_ ?_); · omega) | refine ev_bd rfl ?_ | refine ev_bd0 rfl ?_) | ((with_reducible refine eL ?_); first | ((with_reducible refine ev_lenm ?_ ?_); · rfl) | refine ev_lenom rfl rfl ?_ | refine ev_lenfm rfl rfl ?_ | refine ev_lenoc rfl rfl rfl ?_ | refine ev_lenc rfl rfl ?_ | refine ev_leno rfl rfl ?_ | refine ev_slen rfl ?_ | refine ev_bd rfl ?_ | refine ev_bd0 rfl ?_) | ((with_reducible refine eI ?_); first | ((with_reducible refine ev_idxn ?_ ?_ ?_); (· rfl); · omega) | (refine ev_idxon rfl rfl ?_ ?_; (· first | omega | (simp only [List.length_cons, List.length_nil, List.length_map, List.length_append]; omega))) | (refine ev_idxfn rfl rfl ?_ ?_; (focus omega)) | ((with_reducible refine ev_idx ?_ ?_ ?_); (· rfl); · omega) | (refine ev_idxo rfl rfl ?_ ?_; (· first | omega | (simp only [List.length_cons, List.length_nil, List.length_map, List.length_append]; omega))) | (refine ev_idxf rfl rfl ?_ ?_; (focus omega)) | refine ev_bd rfl ?_ | refine ev_bd0 rfl ?_) | ((with_reducible refine eK ?_); first | (with_reducible first | refine ev_ct ?_ | refine ev_cf ?_) | ((with_reducible refine ev_cond ?_ ?_) <;> intro h)) | ((with_reducible refine eO ?_); first | refine ev_bd rfl ?_ | (refine ev_bdB rfl ?_ ?_ <;> intro h <;> try (exfalso; simp_all; done)) | refine ev_bd0 rfl ?_ | (refine ev_ldm rfl ?_ rfl ?_; (focus omega)) | (refine ev_ldmB rfl ?_ rfl ?_ ?_; (focus omega); (all_goals intro h))) | ((with_reducible refine eD ?_); first | refine ev_bd rfl ?_ | refine ev_bd0 rfl ?_ | ( (refine ev_sto (f := bB) (a := true) rfl rfl rfl rfl rfl rfl rfl rfl ?_ rfl ?_; (focus omega)))) | ((with_reducible refine ih ?_ _ ?_ ?_ ?_ ?_ _ _ ?_) <;> (first | omega | assumption | ((first | (rw [List.length_set]; exact hw) | (intro x hx; rw [nth_set]; split; rfl; exact h1 x hx) | (intro k hk; rw [nth_set]; split; rfl; rename_i hne; by_cases e : k = j; subst e; exact absurd ⟨rfl, by omega⟩ hne; exact h2 k (by omega)) | (intro x hx; rw [nth_set] at hx; split at hx; rename_i he; exact .inr ⟨_, nth_mem (l := p.deps) (k := j) (by omega), he.1⟩; exact h3 x hx))) | (simp only [*, List.map_append, List.length_append, List.length_cons, List.length_nil, List.map_cons, List.map_nil]; done) | (simp_all; done) | (simp_all; omega))) | ( exact hq w hw h1 (fun d hd2 => by (obtain ⟨k, hk, rfl⟩ := mem_nth hd2; exact h2 k (by omega))) h3) | refine ev_ret rfl ?_)
theorem s_l13For_L9 (st hv : List TPkg) (hs : st.length ≤ 2000000) (hp0 : PL st) (hs2 : hv.length ≤ 2000000) (hp2 : PL hv) (name : Int) (hn : 1 ≤ name ∧ name ≤ 4) (ht : tames st) (ht2 : tames hv) (hpo : ∀ r : List TPkg, (∀ p, p ∈ r → p ∈ st ∨ p ∈ hv) → PL r) : ∀ (μ : Nat) (w : List Bool) (out : List TPkg) (n : Int) (c : Nat), ForInv st hv name w out → 1 ≤ n → n ≤ 5 → (∀ m : Int, 1 ≤ m → m < n → nth w m.toNat = true → ∃ p, p ∈ out ∧ p.name = m) → (4 - out.length) * 6 + (5 - n).toNat < μ →
    Ev (fun n' => G24_9 (callF prg n') (n' + 1) 0 (n' + 1 - c) [.sl 4 (st.map ePkg), .sl 4 (hv.map ePkg), .osl 0, .osl 1, iI n] [.arr false 1 (w.map bB), .arr false 4 (out.map ePkg)]) (QFor st hv name) := by
  intro μ
  induction μ with
  | zero => intro w out n c _ _ _ _ hμ; omega
  | succ μ ih =>
  intro w out n c hI hn1 hn5 hdone hμ
  have hlen := hI.le
  have hw := hI.len
  have hpo' : PL out := hpo out fun p hp => (pick_true (hI.outp p hp).1).2
  have hgo : nth w n.toNat = false ∨ (newestP out n).2 = true → n ≤ 4 → ∀ m : Int, 1 ≤ m → m < n + 1 → nth w m.toNat = true → ∃ p, p ∈ out ∧ p.name = m := fun h h4 m hm1 hm2 hm => by
    by_cases e : m = n
    · subst e
      rcases h with h | h
      · rw [h] at hm; cases hm
      · obtain ⟨e1, e2, -⟩ := newest_true (s := out) (name := m) (p := (newestP out m).1) (Prod.ext rfl h)
        exact ⟨_, e1, e2⟩
    · exact hdone m hm1 (by omega) hm
  have hnext : n ≤ 4 → nth w n.toNat = true → (newestP out n).2 = false → ∀ p, pickP st hv n = (p, true) → ∀ w' : List Bool, w'.length = 5 → (∀ x : Nat, nth w x = true → nth w' x = true) → (∀ d, d ∈ p.deps → nth w' d.name.toNat = true) → (∀ x : Nat, nth w' x = true → nth w x = true ∨ ∃ d, d ∈ p.deps ∧ d.name.toNat = x) →
      ∀ c, Ev (fun n => J24_10 (callF prg n) (n + 1) 0 (n + 1 - c) (.sl 4 (st.map ePkg)) (.sl 4 (hv.map ePkg)) (.osl 0) (.osl 7) (iI 0) (osF w' out p)) (QFor st hv name) := by
    intro hn4 hwn hnew p hp w' hw' h1 h2 h3 c
    have hno := (newest_false (s := out) (name := n) (p := (newestP out n).1) (Prod.ext rfl hnew)).2
    obtain ⟨hpn, hpm⟩ := pick_true hp
    have hno' : ∀ x, x ∈ out → x.name ≠ p.name := fun x hx => by rw [hpn]; exact hno x hx
    have hr : Reach st hv name n := hI.sound n hn1 hn4 hwn
    have hpt : depsIn p.deps := by
      rcases hpm with e | e
      · exact (ht p e).2
      · exact (ht2 p e).2
    have hI' : ForInv st hv name w' (withP out p) := by
      refine ⟨hw', fun x hx1 hx2 hx => ?_, h1 _ hI.nm, fun q hq => h1 _ (hI.hvs q hq), fun q hq d hd => ?_, fun q hq => ?_, srt_with hI.so hno'⟩
      · rcases h3 _ hx with e | ⟨d, hd, e⟩
        · exact hI.sound x hx1 hx2 e
        · have := hpt d hd
          obtain rfl : d.name = x := by omega
          exact .need hr hp hd
      · rcases (mem_with hno' q).1 hq with e | rfl
        · exact h1 _ (hI.deps q e d hd)
        · exact h2 d hd
      · rcases (mem_with hno' q).1 hq with e | rfl
        · exact hI.outp q e
        · rw [hpn]; exact ⟨hp, ⟨hn1, hn4⟩, hr⟩
    have hl' := len_with hno'
    have hle' := hI'.le
    repeat' (first | ((with_reducible refine eB ?_); first | ((with_reducible refine ev_add ?_ ?_); · omega) | refine ev_bd rfl ?_ | refine ev_bd0 rfl ?_) | ((with_reducible refine eD ?_); first | refine ev_bd rfl ?_ | refine ev_bd0 rfl ?_) | ((with_reducible refine eH ?_); first | refine ev_gcB rfl ?_) | ((with_reducible refine UJ24_10 ?_); (unfold JB24_10)) | (with_reducible first | refine UL24_9 ?_ | refine VL24_9 ?_) | ( (refine ih w' (withP out p) _ _ hI' ?_ ?_ ?_ ?_; (focus omega); (focus omega); (focus (intro m hm1 hm2; exfalso; omega)); (focus omega))) | refine ev_ret rfl ?_)
  (refine UG24_9 _ ?_; unfold GB24_9)
  repeat' (first | ((with_reducible refine eG ?_); first | (with_reducible first | refine ev_gtt ?_ | refine ev_gff ?_ | refine ev_gtf ?_ | refine ev_gft ?_ | refine ev_gu ?_) | refine ev_bd rfl ?_ | refine ev_bd0 rfl ?_ | ((with_reducible refine ev_gB ?_ ?_) <;> intro h)) | ((with_reducible refine eB ?_); first | ((with_reducible refine ev_leq ?_ ?_) <;> intro h <;> try (exfalso; omega)) | ((with_reducible refine ev_add ?_ ?_); · omega) | refine ev_bd rfl ?_ | refine ev_bd0 rfl ?_) | ((with_reducible refine eI ?_); first | ((with_reducible refine ev_idxn ?_ ?_ ?_); (· rfl); · omega) | (refine ev_idxon rfl rfl ?_ ?_; (· first | omega | (simp only [List.length_cons, List.length_nil, List.length_map, List.length_append]; omega))) | (refine ev_idxfn rfl rfl ?_ ?_; (focus omega)) | ((with_reducible refine ev_idx ?_ ?_ ?_); (· rfl); · omega) | (refine ev_idxo rfl rfl ?_ ?_; (· first | omega | (simp only [List.length_cons, List.length_nil, List.length_map, List.length_append]; omega))) | (refine ev_idxf rfl rfl ?_ ?_; (focus omega)) | refine ev_bd rfl ?_ | refine ev_bd0 rfl ?_) | ((with_reducible refine eC ?_); first | ((refine ev_call (s_l13Is out (by omega) hpo' n) rfl rfl ?_ rfl ?_); (focus first | exact .inl rfl | exact .inr rfl | (refine .inr ?_; simp [flagC, ownF, hasSl3, hasSl1, SO.hasSl, List.all_map, flatSV, SV.cells, Function.comp_def]; done))) | ((refine ev_callE (s_l13Pick st hv hs hp0 hs2 hp2 n) rfl rfl ?_); ((rintro _ _ ⟨p, ok, h1, rfl, rfl⟩) <;> ((rcases ok with _ | _)) <;> (first | (refine ev_post ?_ rfl ?_; (focus first | exact .inl rfl | exact .inr rfl | (refine .inr ?_; simp [flagC, ownF, hasSl3, hasSl1, SO.hasSl, List.all_map, flatSV, SV.cells, Function.comp_def]; done))) | (refine ev_postF ?_ rfl ?_; (focus first | rfl | (simp [flagC, ownF, hasSl3, hasSl1, SO.hasSl, List.all_map, flatSV, SV.cells, Function.comp_def]; done)))))) | ((refine ev_callF (s_l12With out p (by omega)) rfl rfl ?_ rfl ?_); (· first | rfl | (simp [flagC, ownF, hasSl3, hasSl1, SO.hasSl, List.all_map, flatSV, SV.cells, Function.comp_def]; done))) | ((refine ev_callB (s_PlanOkS out (by omega) hpo') rfl rfl ?_ rfl rfl ?_ ?_); (focus first | exact .inl rfl | exact .inr rfl | (refine .inr ?_; simp [flagC, ownF, hasSl3, hasSl1, SO.hasSl, List.all_map, flatSV, SV.cells, Function.comp_def]; done)); (all_goals (intro h)); (all_goals (try (exfalso; simp_all; done))))) | ((with_reducible refine eK ?_); first | (with_reducible first | refine ev_ct ?_ | refine ev_cf ?_) | ((with_reducible refine ev_cond ?_ ?_) <;> intro h)) | ((with_reducible refine eO ?_); first | refine ev_bd rfl ?_ | (refine ev_bdB rfl ?_ ?_ <;> intro h <;> try (exfalso; simp_all; done)) | refine ev_bd0 rfl ?_ | (refine ev_ldm rfl ?_ rfl ?_; (focus omega)) | (refine ev_ldmB rfl ?_ rfl ?_ ?_; (focus omega); (all_goals intro h)) | (refine ev_ldz rfl rfl rfl ?_ ?_ ?_; (· simp); (· first | omega | (simp only [List.length_cons, List.length_nil, List.length_map, List.length_append]; omega)); intro w)) | ((with_reducible refine eD ?_); first | refine ev_bd rfl ?_ | refine ev_bd0 rfl ?_ | ((with_reducible refine ev_pickB ?_ ?_) <;> intro h)) | ((with_reducible refine eH ?_); first | refine ev_gcB rfl ?_) | ((with_reducible refine UJ24_10 ?_); (unfold JB24_10)) | (with_reducible first | refine UL24_9 ?_ | refine VL24_9 ?_) | ( (refine ih w out _ _ hI ?_ ?_ (hgo ?_ ?_) ?_; (focus omega); (focus omega); (focus first | exact .inl h | exact .inr h); (focus omega); (focus omega))) | ( exact s_l13For_L17 st hv out p _ w ((pick_true h1).2.elim (fun e => (ht p e).2) (fun e => (ht2 p e).2)) ((pick_true h1).2.elim (fun e => by (obtain ⟨k, hk, rfl⟩ := mem_nth e; exact (hp0 k).2)) (fun e => by (obtain ⟨k, hk, rfl⟩ := mem_nth e; exact (hp2 k).2))) (fun w' a1 a2 a3 a4 => hnext (by omega) (by assumption) (by assumption) p h1 w' a1 a2 a3 a4 _) 0 (by omega) w hw (fun x hx => hx) (fun k hk => by omega) (fun x hx => .inl hx) _ 0 rfl) | refine ev_ret rfl ?_)
  · refine ⟨[], false, forP_no fun hc => ?_, rfl, rfl⟩
    have h8 := hc.1 n (hI.sound n hn1 (by omega) (by assumption))
    rw [h1] at h8; cases h8
  all_goals (obtain ⟨ha, he⟩ := hI.all hn ht ht2 (by rw [show (5 : Int) = n by omega]; exact hdone))
  · exact ⟨_, _, forP_yes ha (he ▸ h), rfl, by rw [he]⟩
  · exact ⟨[], false, forP_no (fun hc => by (rw [← he, h] at hc); exact Bool.noConfusion hc.2), rfl, rfl⟩
theorem s_l13For_L4 (st hv : List TPkg) (hs : st.length ≤ 2000000) (hp0 : PL st) (hs2 : hv.length ≤ 2000000) (hp2 : PL hv) (name : Int) (hn : 1 ≤ name ∧ name ≤ 4) (ht : tames st) (ht2 : tames hv) (hpo : ∀ r : List TPkg, (∀ p, p ∈ r → p ∈ st ∨ p ∈ hv) → PL r) : ∀ i, i ≤ hv.length → ∀ w : List Bool, w.length = 5 → nth w name.toNat = true → (∀ j, j < i → nth w (nth hv j).name.toNat = true) → (∀ x : Int, 1 ≤ x → x ≤ 4 → nth w x.toNat = true → Reach st hv name x) → ∀ (k : Int) (c : Nat), k = i →
    Ev (fun n => L24_4 (callF prg n) (n + 1) 0 (n + 1 - c) (.sl 4 (st.map ePkg)) (.sl 4 (hv.map ePkg)) (.osl 1) (iI k) [.arr false 4 [], .arr false 1 (w.map bB)]) (QFor st hv name) := by
  refine up_ind ?_
  intro i hi ih w hw h1 h2 h3 k c hk
  subst hk
  have hti : i < hv.length → 1 ≤ (nth hv i).name ∧ (nth hv i).name ≤ 4 := fun h => (ht2 _ (nth_mem h)).1
  have hst : i < hv.length → (w.set (nth hv i).name.toNat true).length = 5 ∧ nth (w.set (nth hv i).name.toNat true) name.toNat = true ∧ (∀ j, j < i + 1 → nth (w.set (nth hv i).name.toNat true) (nth hv j).name.toNat = true) ∧ (∀ x : Int, 1 ≤ x → x ≤ 4 → nth (w.set (nth hv i).name.toNat true) x.toNat = true → Reach st hv name x) := fun hi2 => by
    have := hti hi2
    refine ⟨by rw [List.length_set]; exact hw, ?_, fun j hj => ?_, fun x hx1 hx2 hx => ?_⟩
    · rw [nth_set]; split
      · rfl
      · exact h1
    · rw [nth_set]; split
      · rfl
      · rename_i hne
        by_cases e : j = i
        · subst e; exact absurd ⟨rfl, by omega⟩ hne
        · exact h2 j (by omega)
    · rw [nth_set] at hx; split at hx
      · rename_i he
        obtain rfl : x = (nth hv i).name := by omega
        exact .was (nth_mem hi2)
      · exact h3 x hx1 hx2 hx
  (refine UL24_4 ?_; unfold LB24_4)
  repeat' (first | ((with_reducible refine eB ?_); first | ((with_reducible refine ev_lss ?_ ?_) <;> intro h <;> try (exfalso; omega)) | ((with_reducible refine ev_add ?_ ?_); · omega) | refine ev_bd rfl ?_ | refine ev_bd0 rfl ?_) | ((with_reducible refine eL ?_); first | ((with_reducible refine ev_lenm ?_ ?_); · rfl) | refine ev_lenom rfl rfl ?_ | refine ev_lenfm rfl rfl ?_ | refine ev_lenoc rfl rfl rfl ?_ | refine ev_lenc rfl rfl ?_ | refine ev_leno rfl rfl ?_ | refine ev_slen rfl ?_ | refine ev_bd rfl ?_ | refine ev_bd0 rfl ?_) | ((with_reducible refine eI ?_); first | ((with_reducible refine ev_idxn ?_ ?_ ?_); (· rfl); · omega) | (refine ev_idxon rfl rfl ?_ ?_; (· first | omega | (simp only [List.length_cons, List.length_nil, List.length_map, List.length_append]; omega))) | (refine ev_idxfn rfl rfl ?_ ?_; (focus omega)) | ((with_reducible refine ev_idx ?_ ?_ ?_); (· rfl); · omega) | (refine ev_idxo rfl rfl ?_ ?_; (· first | omega | (simp only [List.length_cons, List.length_nil, List.length_map, List.length_append]; omega))) | (refine ev_idxf rfl rfl ?_ ?_; (focus omega)) | refine ev_bd rfl ?_ | refine ev_bd0 rfl ?_) | ((with_reducible refine eK ?_); first | (with_reducible first | refine ev_ct ?_ | refine ev_cf ?_) | ((with_reducible refine ev_cond ?_ ?_) <;> intro h)) | ((with_reducible refine eO ?_); first | refine ev_bd rfl ?_ | (refine ev_bdB rfl ?_ ?_ <;> intro h <;> try (exfalso; simp_all; done)) | refine ev_bd0 rfl ?_ | (refine ev_ldm rfl ?_ rfl ?_; (focus omega)) | (refine ev_ldmB rfl ?_ rfl ?_ ?_; (focus omega); (all_goals intro h)) | (refine ev_ldz rfl rfl rfl ?_ ?_ ?_; (· simp); (· first | omega | (simp only [List.length_cons, List.length_nil, List.length_map, List.length_append]; omega)); intro w)) | ((with_reducible refine eD ?_); first | refine ev_bd rfl ?_ | refine ev_bd0 rfl ?_ | ( (refine ev_sto (f := bB) (a := true) rfl rfl rfl rfl rfl rfl rfl rfl ?_ rfl ?_; (focus omega)))) | ((with_reducible refine eH ?_); first | refine ev_gcB rfl ?_) | (with_reducible first | refine UL24_9 ?_ | refine VL24_9 ?_) | ( exact ih (by omega) _ (hst (by omega)).1 (hst (by omega)).2.1 (hst (by omega)).2.2.1 (hst (by omega)).2.2.2 _ _ rfl) | ( exact s_l13For_L9 st hv hs hp0 hs2 hp2 name hn ht ht2 hpo 1000 w [] 1 _ ⟨hw, h3, h1, fun p hp => by (obtain ⟨j, hj, rfl⟩ := mem_nth hp; exact h2 j (by omega)), (fun p hp => by cases hp), (fun p hp => by cases hp), List.Pairwise.nil⟩ (by omega) (by omega) (fun m a b => by omega) (by simp)) | refine ev_ret rfl ?_)
theorem s_l13For (st hv : List TPkg) (hs : st.length ≤ 2000000) (hp0 : PL st) (hs2 : hv.length ≤ 2000000) (hp2 : PL hv) (name : Int) (hn : 1 ≤ name ∧ name ≤ 4) (ht : tames st) (ht2 : tames hv) : Ev (fun n => callF prg n 24 [.sl 4 (st.map ePkg), .sl 4 (hv.map ePkg), iI name] []) (QFor st hv name) := by
  have hpo : ∀ r : List TPkg, (∀ p, p ∈ r → p ∈ st ∨ p ∈ hv) → PL r := fun r h i => by
    by_cases hi : i < r.length
    · rcases h _ (nth_mem hi) with e | e
      · obtain ⟨k, hk, e2⟩ := mem_nth e; rw [← e2]; exact hp0 k
      · obtain ⟨k, hk, e2⟩ := mem_nth e; rw [← e2]; exact hp2 k
    · have : nth r i = default := by
        unfold nth
        rw [List.getD_eq_getElem?_getD, List.getElem?_eq_none (by omega)]; rfl
      rw [this]
      exact ⟨by show ([] : List TFile).length ≤ _; simp, by show ([] : List TDep).length ≤ _; simp⟩
  have hini : ∀ x : Int, 1 ≤ x → x ≤ 4 → nth (([false, false, false, false, false] : List Bool).set name.toNat true) x.toNat = true → Reach st hv name x := fun x hx1 hx2 hx => by
    rw [nth_set] at hx
    split at hx
    · rename_i he
      obtain rfl : x = name := by omega
      exact .this
    · obtain rfl | rfl | rfl | rfl : x = 1 ∨ x = 2 ∨ x = 3 ∨ x = 4 := by omega
      all_goals cases hx
  (refine U24 (nl := 0) rfl ?_; unfold B24)
  repeat' (first | ((with_reducible refine eI ?_); first | ((with_reducible refine ev_idxn ?_ ?_ ?_); (· rfl); · omega) | (refine ev_idxon rfl rfl ?_ ?_; (· first | omega | (simp only [List.length_cons, List.length_nil, List.length_map, List.length_append]; omega))) | (refine ev_idxfn rfl rfl ?_ ?_; (focus omega)) | ((with_reducible refine ev_idx ?_ ?_ ?_); (· rfl); · omega) | ( (refine ev_idxo rfl rfl ?_ ?_; (focus (show _ ∧ _ < (5 : Int); omega)))) | (refine ev_idxo rfl rfl ?_ ?_; (· first | omega | (simp only [List.length_cons, List.length_nil, List.length_map, List.length_append]; omega))) | (refine ev_idxf rfl rfl ?_ ?_; (focus omega)) | refine ev_bd rfl ?_ | refine ev_bd0 rfl ?_) | ((with_reducible refine eD ?_); first | refine ev_bd rfl ?_ | refine ev_bd0 rfl ?_ | ( (refine ev_sto (f := bB) (l := [false, false, false, false, false]) (a := true) rfl rfl rfl rfl rfl rfl rfl rfl ?_ rfl ?_; (focus (show _ < 5; omega))))) | ( exact s_l13For_L4 st hv hs hp0 hs2 hp2 name hn ht ht2 hpo 0 (by omega) _ (by simp) (by (rw [nth_set]; rw [if_pos ⟨rfl, by show _ < 5; omega⟩])) (fun j hj => by omega) hini 0 0 rfl) | refine ev_ret rfl ?_)
end Go.Proofs.Ytlnenahbffkbiaa

/- Drawn packages that can be in together. -/
namespace Go.Proofs.Ytlnenahbffkbiaa
open Go
set_option linter.unusedVariables false
set_option linter.unusedSimpArgs false
set_option maxHeartbeats 40000000
def Res4 (j : Nat) (s : List TPkg) (x : SV) (t : List SO) : Prop := (x = .osl j ∧ t = [.arr false 4 (s.map ePkg)]) ∨ (x = .sl 4 (s.map ePkg) ∧ t = [])
def Arr4 (s : List TPkg) (o : SO) : Prop := o = .arr false 4 (s.map ePkg) ∨ o = .frz 4 (s.map ePkg)
theorem forP_small {st hv : List TPkg} {name : Int} {r : List TPkg} {ok : Bool} (h : forP st hv name = (r, ok)) (h1 : smalls st) (h2 : smalls hv) : smalls r := fun p hp => ((forP_mem h).2 p hp).elim (h1 p) (h2 p)
theorem forP_tame {st hv : List TPkg} {name : Int} {r : List TPkg} {ok : Bool} (h : forP st hv name = (r, ok)) (h1 : tames st) (h2 : tames hv) : tames r := fun p hp => ((forP_mem h).2 p hp).elim (h1 p) (h2 p)
def QPlan (b : List Int) (p : Int) : SV → List SO → Prop := fun x os => ∃ (s : List TPkg) (q : Int) (t : List SO), os = rd b q :: t ∧ Res4 1 s x t ∧ s.length ≤ 4 ∧ smalls s ∧ p ≤ q ∧ q ≤ p + 10 ∧ tames s
end Go.Proofs.Ytlnenahbffkbiaa

/- Packages that can be in together, as a law of lists; one less. -/
namespace Go.Proofs.Ytlnenahbffkbiaa
open Go
set_option linter.unusedVariables false
set_option linter.unusedSimpArgs false
theorem pw_nth {α : Type} [Inhabited α] {R : α → α → Prop} {l : List α} : l.Pairwise R ↔ ∀ i j, i < j → j < l.length → R (nth l i) (nth l j) := by
  rw [List.pairwise_iff_getElem]
  have key : ∀ i (h : i < l.length), l[i] = nth l i := fun i h => by
    have := get_nth h
    rw [List.getElem?_eq_getElem h] at this
    exact Option.some.inj this
  constructor
  · intro h i j hij hj
    have := h i j (by omega) hj hij
    rwa [key, key] at this
  · intro h i j hi hj hij
    rw [key, key]; exact h i j hij hj
def apart (s : List TPkg) : Prop := s.Pairwise fun p q => ∀ f, f ∈ p.files → ∀ g, g ∈ q.files → g.path ≠ f.path
theorem plan_iff {s : List TPkg} : planOk s = true ↔ (∀ p, p ∈ s → pkgOk p = true) ∧ srt s ∧ (∀ p, p ∈ s → ∀ d, d ∈ p.deps → bearsP s d.name d.least) ∧ apart s := by
  rw [planOk_iff]
  constructor
  · rintro ⟨hs, hp⟩
    have hone : ∀ j i, i < j → j < s.length → (nth s i).name < (nth s j).name := by
      intro j
      induction j with
      | zero => intro i hi; omega
      | succ j ih =>
        intro i hi hj
        have h1 := (hp (j + 1) hj).1 (by omega)
        simp only [Nat.add_sub_cancel] at h1
        by_cases e : i = j
        · subst e; exact h1
        · have := ih i (by omega) (by omega); omega
    refine ⟨fun p h => ?_, pw_nth.2 fun i j hij hj => hone j i hij hj, fun p h d hd => ?_, pw_nth.2 fun i j hij hj f hf g hg e => ?_⟩
    · obtain ⟨i, hi, rfl⟩ := mem_nth h
      exact (storeOk_iff.1 hs i hi).1
    · obtain ⟨i, hi, rfl⟩ := mem_nth h
      obtain ⟨k, hk, rfl⟩ := mem_nth hd
      exact (hp i hi).2.1 k hk
    · obtain ⟨k, hk, rfl⟩ := mem_nth hg
      exact (hp j hj).2.2 k hk ⟨i, hij, f, hf, e.symm⟩
  · rintro ⟨h1, h2, h3, h4⟩
    have h2' := pw_nth.1 h2
    have h4' := pw_nth.1 h4
    refine ⟨storeOk_iff.2 fun i hi => ⟨h1 _ (nth_mem hi), fun h0 => .inl (h2' _ _ (by omega) hi)⟩, fun i hi => ⟨fun h0 => h2' _ _ (by omega) hi, fun k hk => h3 _ (nth_mem hi) _ (nth_mem hk), fun k hk => ?_⟩⟩
    rintro ⟨j, hj, f, hf, e⟩
    exact h4' j i hj hi f hf _ (nth_mem hk) e.symm
def neededP (s : List TPkg) (k : Nat) : Prop := ∃ i, i < s.length ∧ i ≠ k ∧ ∃ d, d ∈ (nth s i).deps ∧ d.name = (nth s k).name
end Go.Proofs.Ytlnenahbffkbiaa
