/- Packages that can be in together. -/
import Derived.Test.YtgeolifkmiglgaaV22
namespace Go.Proofs.Ytgeolifkmiglgaa
open Go
set_option linter.unusedVariables false
set_option linter.unusedSimpArgs false
set_option maxHeartbeats 4000000

/-- There is one of a name, of such a version at least. -/
def bearsP (s : List TPkg) (dn dl : Int) : Prop := ∃ p, p ∈ s ∧ (p.name = dn ∧ dl ≤ p.ver)
instance (s : List TPkg) (dn dl : Int) : Decidable (bearsP s dn dl) := by unfold bearsP; exact inferInstance
/-- One of the first ones has a file at a place. -/
def ownedTo (s : List TPkg) (n : Nat) (x : Int) : Prop := ∃ j, j < n ∧ ∃ f, f ∈ (nth s j).files ∧ f.path = x
instance (s : List TPkg) (n : Nat) (x : Int) : Decidable (ownedTo s n x) := by unfold ownedTo; exact inferInstance
def depsAtP (s : List TPkg) (i : Nat) : Prop := ∀ j, j < (nth s i).deps.length → bearsP s (nth (nth s i).deps j).name (nth (nth s i).deps j).least
instance (s : List TPkg) (i : Nat) : Decidable (depsAtP s i) := by unfold depsAtP; exact inferInstance
def filesAtP (s : List TPkg) (i : Nat) : Prop := ∀ j, j < (nth s i).files.length → ¬ ownedTo s i (nth (nth s i).files j).path
instance (s : List TPkg) (i : Nat) : Decidable (filesAtP s i) := by unfold filesAtP; exact inferInstance
def oneAt (s : List TPkg) (i : Nat) : Prop := 0 < i → (nth s (i - 1)).name < (nth s i).name
instance (s : List TPkg) (i : Nat) : Decidable (oneAt s i) := by unfold oneAt; exact inferInstance
def oneOk (s : List TPkg) : Bool := decide (∀ i, i < s.length → oneAt s i)
def planAt (s : List TPkg) (i : Nat) : Prop := oneAt s i ∧ depsAtP s i ∧ filesAtP s i
instance (s : List TPkg) (i : Nat) : Decidable (planAt s i) := by unfold planAt; exact inferInstance
def plansAt (s : List TPkg) : Bool := decide (∀ i, i < s.length → planAt s i)
def planOk (s : List TPkg) : Bool := storeOk s && plansAt s
theorem planOk_iff {s : List TPkg} : planOk s = true ↔ storeOk s = true ∧ ∀ i, i < s.length → planAt s i := by simp [planOk, plansAt]

theorem bears_newest {s : List TPkg} (hs : storeOk s = true) {dn dl : Int} {p : TPkg} {ok : Bool} (h : newestP s dn = (p, ok)) : bearsP s dn dl ↔ ok = true ∧ dl ≤ p.ver := by
  cases ok with
  | true =>
    obtain ⟨h1, h2, -⟩ := newest_true h
    constructor
    · rintro ⟨q, hq, e1, e2⟩
      rcases store_max hs h hq e1 with rfl | e3
      · exact ⟨rfl, e2⟩
      · exact ⟨rfl, by omega⟩
    · rintro ⟨-, e⟩; exact ⟨p, h1, h2, e⟩
  | false =>
    obtain ⟨-, h2⟩ := newest_false h
    constructor
    · rintro ⟨q, hq, e1, -⟩; exact absurd e1 (h2 q hq)
    · rintro ⟨e, -⟩; cases e

theorem s_l13Meets (s : List TPkg) (hs : s.length ≤ 2000000) (hp0 : PL s) (hok : storeOk s = true) (dn dl : Int) : Ex (fun m => callF prg m 59 [.sl 4 (s.map ePkg), .ag [iI dn, iI dl]] []) (bB (decide (bearsP s dn dl))) [] := by
  refine ev_is.1 ?_
  (refine U59 (nl := 0) rfl ?_; unfold B59)
  repeat' (first | ((with_reducible refine eG ?_); first | (with_reducible first | refine ev_gtt ?_ | refine ev_gff ?_ | refine ev_gtf ?_ | refine ev_gft ?_ | refine ev_gu ?_) | refine ev_bd rfl ?_ | refine ev_bd0 rfl ?_ | ((with_reducible refine ev_gB ?_ ?_) <;> intro h)) | ((with_reducible refine eB ?_); first | ((with_reducible refine ev_geq ?_ ?_) <;> intro h <;> try (exfalso; omega)) | refine ev_bd rfl ?_ | refine ev_bd0 rfl ?_) | ((with_reducible refine eC ?_); first | ((refine ev_callE (s_l12Newest s hs hp0 dn) rfl rfl ?_); ((rintro _ _ ⟨p, ok, h1, rfl, rfl⟩) <;> (((have hb := bears_newest (dl := dl) hok h1); (rcases ok with _ | _))) <;> (first | (refine ev_post ?_ rfl ?_; (focus first | exact .inl rfl | exact .inr rfl | (refine .inr ?_; simp [flagC, ownF, hasSl3, hasSl1, SO.hasSl, List.all_map, flatSV, SV.cells, Function.comp_def]; done))) | (refine ev_postF ?_ rfl ?_; (focus first | rfl | (simp [flagC, ownF, hasSl3, hasSl1, SO.hasSl, List.all_map, flatSV, SV.cells, Function.comp_def]; done))))))) | ((with_reducible refine eO ?_); first | refine ev_bd rfl ?_ | (refine ev_bdB rfl ?_ ?_ <;> intro h <;> try (exfalso; simp_all; done)) | refine ev_bd0 rfl ?_ | (refine ev_ldm rfl ?_ rfl ?_; (focus omega)) | (refine ev_ldmB rfl ?_ rfl ?_ ?_; (focus omega); (all_goals intro h))) | ((with_reducible refine eD ?_); first | refine ev_bd rfl ?_ | refine ev_bd0 rfl ?_ | ((with_reducible refine ev_pickB ?_ ?_) <;> intro h)) | refine ev_ret rfl ?_)
  all_goals exact ⟨congrArg bB (by simp [hb, *]), rfl⟩
theorem s_l13One_L (s : List TPkg) (hs : s.length ≤ 2000000) : ∀ i, i ≤ s.length + 1 → 1 ≤ i → (∀ j, j < i → oneAt s j) → ∀ (k : Int) (c : Nat), k = i →
    Ev (fun n => L58_2 (callF prg n) (n + 1) 0 (n + 1 - c) (.sl 4 (s.map ePkg)) (iI k) []) (Is (bB (oneOk s)) []) := by
  refine up_ind ?_
  intro i hi ih h1 hp k c hk
  subst hk
  (refine UL58_2 ?_; unfold LB58_2)
  repeat' (first | ((with_reducible refine eB ?_); first | ((with_reducible first | refine ev_lss ?_ ?_ | refine ev_geq ?_ ?_) <;> intro h <;> try (exfalso; omega)) | ((with_reducible first | refine ev_add ?_ ?_ | refine ev_sub ?_ ?_); · omega) | refine ev_bd rfl ?_ | refine ev_bd0 rfl ?_) | ((with_reducible refine eL ?_); first | ((with_reducible refine ev_lenm ?_ ?_); · rfl) | refine ev_lenom rfl rfl ?_ | refine ev_lenfm rfl rfl ?_ | refine ev_lenoc rfl rfl rfl ?_ | refine ev_lenc rfl rfl ?_ | refine ev_leno rfl rfl ?_ | refine ev_slen rfl ?_ | refine ev_bd rfl ?_ | refine ev_bd0 rfl ?_) | ((with_reducible refine eI ?_); first | ((with_reducible refine ev_idxn ?_ ?_ ?_); (· rfl); · omega) | (refine ev_idxon rfl rfl ?_ ?_; (· first | omega | (simp only [List.length_cons, List.length_nil, List.length_map, List.length_append]; omega))) | (refine ev_idxfn rfl rfl ?_ ?_; (focus omega)) | ((with_reducible refine ev_idx ?_ ?_ ?_); (· rfl); · omega) | (refine ev_idxo rfl rfl ?_ ?_; (· first | omega | (simp only [List.length_cons, List.length_nil, List.length_map, List.length_append]; omega))) | (refine ev_idxf rfl rfl ?_ ?_; (focus omega)) | refine ev_bd rfl ?_ | refine ev_bd0 rfl ?_) | ((with_reducible refine eK ?_); first | (with_reducible first | refine ev_ct ?_ | refine ev_cf ?_) | ((with_reducible refine ev_cond ?_ ?_) <;> intro h)) | ((with_reducible refine eO ?_); first | refine ev_bd rfl ?_ | (refine ev_bdB rfl ?_ ?_ <;> intro h <;> try (exfalso; simp_all; done)) | refine ev_bd0 rfl ?_ | (refine ev_ldm rfl ?_ rfl ?_; (focus omega)) | (refine ev_ldmB rfl ?_ rfl ?_ ?_; (focus omega); (all_goals intro h))) | ((with_reducible refine eD ?_); first | refine ev_bd rfl ?_ | refine ev_bd0 rfl ?_) | ((with_reducible refine ih ?_ ?_ (all_step hp ?_) _ _ ?_) <;> (first | omega | assumption | ((unfold oneAt; (try simp only [Int.toNat_natCast, tn_sub1, tn_add1] at *); omega)) | (simp only [*, List.map_append, List.length_append, List.length_cons, List.length_nil, List.map_cons, List.map_nil]; done) | (simp_all; done) | (simp_all; omega))) | refine ev_ret rfl ?_)
  all_goals first | exact ⟨congrArg bB (Eq.symm (all_true hp (by omega))), rfl⟩ | exact ⟨congrArg bB (Eq.symm (all_false (i := i) (by omega) (by unfold oneAt; (try simp only [Int.toNat_natCast, tn_sub1, tn_add1] at *); omega))), rfl⟩ | trace_state
theorem s_l13One (s : List TPkg) (hs : s.length ≤ 2000000) : Ex (fun m => callF prg m 58 [.sl 4 (s.map ePkg)] []) (bB (oneOk s)) [] := by
  refine ev_is.1 ?_
  (refine U58 (nl := 0) rfl ?_; unfold B58)
  exact s_l13One_L s hs 1 (by omega) (by omega) (fun j hj h0 => by omega) 1 0 rfl
theorem owned_step {s : List TPkg} {i : Nat} {x : Int} : ownedTo s (i + 1) x ↔ ownedTo s i x ∨ ∃ f, f ∈ (nth s i).files ∧ f.path = x := by
  unfold ownedTo
  constructor
  · rintro ⟨j, hj, h⟩
    by_cases e : j = i
    · subst e; exact .inr h
    · exact .inl ⟨j, by omega, h⟩
  · rintro (⟨j, hj, h⟩ | h)
    · exact ⟨j, by omega, h⟩
    · exact ⟨i, by omega, h⟩
def QOwn (s : List TPkg) (b : Nat) (x : Int) : SV → List SO → Prop := fun y os => ∃ z : Int, y = iI z ∧ os = [] ∧ (0 ≤ z ↔ ownedTo s b x)
theorem s_l13Owner_L5 (s : List TPkg) (hs : s.length ≤ 2000000) (hp0 : PL s) (b : Nat) (hb : b ≤ s.length) (x : Int) (m2 : Nat → Nat) (i : Nat) (hi : i < b)
    (hq : (∀ f, f ∈ (nth s i).files → f.path ≠ x) → Ev (fun n => L60_2 (callF prg n) (n + 1) 0 (m2 n) (.sl 4 (s.map ePkg)) (iI b) (iI x) (iI ((i : Int) + 1)) []) (QOwn s b x)) : ∀ j, j ≤ (nth s i).files.length → (∀ k, k < j → (nth (nth s i).files k).path ≠ x) → ∀ (k : Int) (c : Nat), k = j →
    Ev (fun n => L60_5 (callF prg n) (n + 1) 0 (m2 n) (n + 1 - c) (.sl 4 (s.map ePkg)) (iI b) (iI x) (iI i) (iI k) []) (QOwn s b x) := by
  have hpi := hp0 i
  refine up_ind ?_
  intro j hj ih hp k c hk
  subst hk
  (refine UL60_5 ?_; unfold LB60_5)
  repeat' (first | ((with_reducible refine eB ?_); first | ((with_reducible first | refine ev_lss ?_ ?_ | refine ev_eql ?_ ?_) <;> intro h <;> try (exfalso; omega)) | ((with_reducible refine ev_add ?_ ?_); · omega) | refine ev_bd rfl ?_ | refine ev_bd0 rfl ?_) | ((with_reducible refine eL ?_); first | ((with_reducible refine ev_lenm ?_ ?_); · rfl) | refine ev_lenom rfl rfl ?_ | refine ev_lenfm rfl rfl ?_ | refine ev_lenoc rfl rfl rfl ?_ | refine ev_lenc rfl rfl ?_ | refine ev_leno rfl rfl ?_ | refine ev_slen rfl ?_ | refine ev_bd rfl ?_ | refine ev_bd0 rfl ?_) | ((with_reducible refine eI ?_); first | ((with_reducible refine ev_idxn ?_ ?_ ?_); (· rfl); · omega) | (refine ev_idxon rfl rfl ?_ ?_; (· first | omega | (simp only [List.length_cons, List.length_nil, List.length_map, List.length_append]; omega))) | (refine ev_idxfn rfl rfl ?_ ?_; (focus omega)) | ((with_reducible refine ev_idx ?_ ?_ ?_); (· rfl); · omega) | (refine ev_idxo rfl rfl ?_ ?_; (· first | omega | (simp only [List.length_cons, List.length_nil, List.length_map, List.length_append]; omega))) | (refine ev_idxf rfl rfl ?_ ?_; (focus omega)) | refine ev_bd rfl ?_ | refine ev_bd0 rfl ?_) | ((with_reducible refine eK ?_); first | (with_reducible first | refine ev_ct ?_ | refine ev_cf ?_) | ((with_reducible refine ev_cond ?_ ?_) <;> intro h)) | ((with_reducible refine eO ?_); first | refine ev_bd rfl ?_ | (refine ev_bdB rfl ?_ ?_ <;> intro h <;> try (exfalso; simp_all; done)) | refine ev_bd0 rfl ?_ | (refine ev_ldm rfl ?_ rfl ?_; (focus omega)) | (refine ev_ldmB rfl ?_ rfl ?_ ?_; (focus omega); (all_goals intro h))) | ((with_reducible refine eD ?_); first | refine ev_bd rfl ?_ | refine ev_bd0 rfl ?_) | ((with_reducible refine ih ?_ (all_step hp ?_) _ _ ?_) <;> (first | omega | assumption | (simp only [*, List.map_append, List.length_append, List.length_cons, List.length_nil, List.map_cons, List.map_nil]; done) | (simp_all; done) | (simp_all; omega))) | ( exact hq fun f hf => by (obtain ⟨y, hy, rfl⟩ := mem_nth hf; exact hp y (by omega))) | refine ev_ret rfl ?_)
  all_goals (refine ⟨_, rfl, rfl, ⟨fun _ => ⟨i, hi, _, nth_mem (l := (nth s i).files) (k := j) (by omega), by simpa using h⟩, fun _ => by omega⟩⟩)
theorem s_l13Owner_L2 (s : List TPkg) (hs : s.length ≤ 2000000) (hp0 : PL s) (b : Nat) (hb : b ≤ s.length) (x : Int) : ∀ i, i ≤ b → ¬ ownedTo s i x → ∀ (k : Int) (c : Nat), k = i →
    Ev (fun n => L60_2 (callF prg n) (n + 1) 0 (n + 1 - c) (.sl 4 (s.map ePkg)) (iI b) (iI x) (iI k) []) (QOwn s b x) := by
  refine up_ind ?_
  intro i hi ih hp k c hk
  subst hk
  (refine UL60_2 ?_; unfold LB60_2)
  repeat' (first | ((with_reducible refine eB ?_); first | ((with_reducible refine ev_lss ?_ ?_) <;> intro h <;> try (exfalso; omega)) | refine ev_bd rfl ?_ | refine ev_bd0 rfl ?_) | ((with_reducible refine eK ?_); first | (with_reducible first | refine ev_ct ?_ | refine ev_cf ?_) | ((with_reducible refine ev_cond ?_ ?_) <;> intro h)) | ((with_reducible refine eD ?_); first | refine ev_bd rfl ?_ | refine ev_bd0 rfl ?_) | ( exact s_l13Owner_L5 s hs hp0 b hb x _ i (by omega) (fun hf => ih (by omega) (by (rw [owned_step]; rintro (h1 | ⟨f, h1, h2⟩); exact hp h1; exact hf f h1 h2)) _ _ rfl) 0 (by omega) (fun k hk => by omega) 0 0 rfl) | refine ev_ret rfl ?_)
  obtain rfl : i = b := by omega
  exact ⟨_, rfl, rfl, ⟨fun h => by omega, fun h => absurd h hp⟩⟩
theorem s_l13Owner (s : List TPkg) (hs : s.length ≤ 2000000) (hp0 : PL s) (b : Nat) (hb : b ≤ s.length) (x : Int) : ∃ z : Int, (0 ≤ z ↔ ownedTo s b x) ∧ Ex (fun m => callF prg m 60 [.sl 4 (s.map ePkg), iI b, iI x] []) (iI z) [] := by
  have key : Ev (fun m => callF prg m 60 [.sl 4 (s.map ePkg), iI b, iI x] []) (QOwn s b x) := by
    (refine U60 (nl := 0) rfl ?_; unfold B60)
    exact s_l13Owner_L2 s hs hp0 b hb x 0 (by omega) (by rintro ⟨j, hj, -⟩; omega) 0 0 rfl
  obtain ⟨_, _, ⟨z, rfl, rfl, hz⟩, he⟩ := key
  exact ⟨z, hz, he⟩
theorem s_PlanOkS_L12 (s : List TPkg) (hs : s.length ≤ 2000000) (hp0 : PL s) {Q : SV → List SO → Prop} (m4 : Nat → Nat) (i : Nat) (hi : i < s.length)
    (hq : filesAtP s i → Ev (fun n => L22_4 (callF prg n) (n + 1) 0 (m4 n) (.sl 4 (s.map ePkg)) (iI ((i : Int) + 1)) []) Q) (hn : ¬ filesAtP s i → Q (bB false) []) : ∀ j, j ≤ (nth s i).files.length → (∀ k, k < j → ¬ ownedTo s i (nth (nth s i).files k).path) → ∀ (k : Int) (c : Nat), k = j →
    Ev (fun n => L22_12 (callF prg n) (n + 1) 0 (m4 n) (n + 1 - c) (.sl 4 (s.map ePkg)) (iI i) (iI k) []) Q := by
  have hpi := hp0 i
  refine up_ind ?_
  intro j hj ih hp k c hk
  subst hk
  (refine UL22_12 ?_; unfold LB22_12)
  repeat' (first | ((with_reducible refine eB ?_); first | ((with_reducible first | refine ev_lss ?_ ?_ | refine ev_geq ?_ ?_) <;> intro h <;> try (exfalso; omega)) | ((with_reducible refine ev_add ?_ ?_); · omega) | refine ev_bd rfl ?_ | refine ev_bd0 rfl ?_) | ((with_reducible refine eL ?_); first | ((with_reducible refine ev_lenm ?_ ?_); · rfl) | refine ev_lenom rfl rfl ?_ | refine ev_lenfm rfl rfl ?_ | refine ev_lenoc rfl rfl rfl ?_ | refine ev_lenc rfl rfl ?_ | refine ev_leno rfl rfl ?_ | refine ev_slen rfl ?_ | refine ev_bd rfl ?_ | refine ev_bd0 rfl ?_) | ((with_reducible refine eI ?_); first | ((with_reducible refine ev_idxn ?_ ?_ ?_); (· rfl); · omega) | (refine ev_idxon rfl rfl ?_ ?_; (· first | omega | (simp only [List.length_cons, List.length_nil, List.length_map, List.length_append]; omega))) | (refine ev_idxfn rfl rfl ?_ ?_; (focus omega)) | ((with_reducible refine ev_idx ?_ ?_ ?_); (· rfl); · omega) | (refine ev_idxo rfl rfl ?_ ?_; (· first | omega | (simp only [List.length_cons, List.length_nil, List.length_map, List.length_append]; omega))) | (refine ev_idxf rfl rfl ?_ ?_; (focus omega)) | refine ev_bd rfl ?_ | refine ev_bd0 rfl ?_) | ((with_reducible refine eC ?_); first | ((refine ev_callN (s_l13Owner s hs hp0 i (by omega) _) rfl rfl ?_ (fun _ => rfl) ?_); (· first | exact .inl rfl | exact .inr (fun _ => rfl)); (first | (have q0 := z3; clear q0; intro z4 hz4) | (have q0 := z2; clear q0; intro z3 hz3) | (have q0 := z; clear q0; intro z2 hz2) | (intro z hz)))) | ((with_reducible refine eK ?_); first | (with_reducible first | refine ev_ct ?_ | refine ev_cf ?_) | ((with_reducible refine ev_cond ?_ ?_) <;> intro h)) | ((with_reducible refine eO ?_); first | refine ev_bd rfl ?_ | (refine ev_bdB rfl ?_ ?_ <;> intro h <;> try (exfalso; simp_all; done)) | refine ev_bd0 rfl ?_ | (refine ev_ldm rfl ?_ rfl ?_; (focus omega)) | (refine ev_ldmB rfl ?_ rfl ?_ ?_; (focus omega); (all_goals intro h))) | ((with_reducible refine eD ?_); first | refine ev_bd rfl ?_ | refine ev_bd0 rfl ?_) | ((with_reducible refine ih ?_ (all_step hp ?_) _ _ ?_) <;> (first | omega | assumption | ((intro h9; have := hz.2 h9; omega)) | (simp only [*, List.map_append, List.length_append, List.length_cons, List.length_nil, List.map_cons, List.map_nil]; done) | (simp_all; done) | (simp_all; omega))) | ( exact hq fun y hy => hp y (by omega)) | refine ev_ret rfl ?_)
  all_goals (refine hn fun h9 => h9 j (by omega) ?_; exact hz.1 (by omega))
theorem s_PlanOkS_L7 (s : List TPkg) (hs : s.length ≤ 2000000) (hp0 : PL s) (hok : storeOk s = true) {Q : SV → List SO → Prop} (m4 : Nat → Nat) (i : Nat) (hi : i < s.length)
    (hq : depsAtP s i → filesAtP s i → Ev (fun n => L22_4 (callF prg n) (n + 1) 0 (m4 n) (.sl 4 (s.map ePkg)) (iI ((i : Int) + 1)) []) Q) (hn : ¬ (depsAtP s i ∧ filesAtP s i) → Q (bB false) []) : ∀ j, j ≤ (nth s i).deps.length → (∀ k, k < j → bearsP s (nth (nth s i).deps k).name (nth (nth s i).deps k).least) → ∀ (k : Int) (c : Nat), k = j →
    Ev (fun n => L22_7 (callF prg n) (n + 1) 0 (m4 n) (n + 1 - c) (.sl 4 (s.map ePkg)) (iI i) (iI k) []) Q := by
  have hpi := hp0 i
  refine up_ind ?_
  intro j hj ih hp k c hk
  subst hk
  (refine UL22_7 ?_; unfold LB22_7)
  repeat' (first | ((with_reducible refine eB ?_); first | ((with_reducible refine ev_lss ?_ ?_) <;> intro h <;> try (exfalso; omega)) | ((with_reducible refine ev_add ?_ ?_); · omega) | refine ev_bd rfl ?_ | refine ev_bd0 rfl ?_) | ((with_reducible refine eL ?_); first | ((with_reducible refine ev_lenm ?_ ?_); · rfl) | refine ev_lenom rfl rfl ?_ | refine ev_lenfm rfl rfl ?_ | refine ev_lenoc rfl rfl rfl ?_ | refine ev_lenc rfl rfl ?_ | refine ev_leno rfl rfl ?_ | refine ev_slen rfl ?_ | refine ev_bd rfl ?_ | refine ev_bd0 rfl ?_) | ((with_reducible refine eI ?_); first | ((with_reducible refine ev_idxn ?_ ?_ ?_); (· rfl); · omega) | (refine ev_idxon rfl rfl ?_ ?_; (· first | omega | (simp only [List.length_cons, List.length_nil, List.length_map, List.length_append]; omega))) | (refine ev_idxfn rfl rfl ?_ ?_; (focus omega)) | ((with_reducible refine ev_idx ?_ ?_ ?_); (· rfl); · omega) | (refine ev_idxo rfl rfl ?_ ?_; (· first | omega | (simp only [List.length_cons, List.length_nil, List.length_map, List.length_append]; omega))) | (refine ev_idxf rfl rfl ?_ ?_; (focus omega)) | refine ev_bd rfl ?_ | refine ev_bd0 rfl ?_) | ((with_reducible refine eC ?_); first | ((refine ev_callD (s_l13Meets s hs hp0 hok _ _) rfl rfl ?_ rfl rfl ?_ ?_); (focus first | exact .inl rfl | exact .inr rfl | (refine .inr ?_; simp [flagC, ownF, hasSl3, hasSl1, SO.hasSl, List.all_map, flatSV, SV.cells, Function.comp_def]; done)); (all_goals (intro h)); (all_goals (try (exfalso; first | omega | exact h rfl | exact h ⟨rfl, rfl, rfl⟩))))) | ((with_reducible refine eK ?_); first | (with_reducible first | refine ev_ct ?_ | refine ev_cf ?_) | ((with_reducible refine ev_cond ?_ ?_) <;> intro h)) | ((with_reducible refine eO ?_); first | refine ev_bd rfl ?_ | (refine ev_bdB rfl ?_ ?_ <;> intro h <;> try (exfalso; simp_all; done)) | refine ev_bd0 rfl ?_ | (refine ev_ldm rfl ?_ rfl ?_; (focus omega)) | (refine ev_ldmB rfl ?_ rfl ?_ ?_; (focus omega); (all_goals intro h))) | ((with_reducible refine eD ?_); first | refine ev_bd rfl ?_ | refine ev_bd0 rfl ?_) | ((with_reducible refine ih ?_ (all_step hp ?_) _ _ ?_) <;> (first | omega | assumption | (simp only [*, List.map_append, List.length_append, List.length_cons, List.length_nil, List.map_cons, List.map_nil]; done) | (simp_all; done) | (simp_all; omega))) | ( ((have hd : depsAtP s i := fun y hy => hp y (by omega)); exact s_PlanOkS_L12 s hs hp0 m4 i hi (hq hd) (fun h9 => hn fun h8 => h9 h8.2) 0 (by omega) (fun k hk => by omega) 0 0 rfl)) | refine ev_ret rfl ?_)
  all_goals exact hn fun h9 => h (h9.1 j (by omega))
theorem s_PlanOkS_L4 (s : List TPkg) (hs : s.length ≤ 2000000) (hp0 : PL s) (hok : storeOk s = true) (hone : oneOk s = true) : ∀ i, i ≤ s.length → (∀ j, j < i → planAt s j) → ∀ (k : Int) (c : Nat), k = i →
    Ev (fun n => L22_4 (callF prg n) (n + 1) 0 (n + 1 - c) (.sl 4 (s.map ePkg)) (iI k) []) (Is (bB (planOk s)) []) := by
  have ho : ∀ i, i < s.length → oneAt s i := of_decide_eq_true hone
  refine up_ind ?_
  intro i hi ih hp k c hk
  subst hk
  (refine UL22_4 ?_; unfold LB22_4)
  repeat' (first | ((with_reducible refine eB ?_); first | ((with_reducible refine ev_lss ?_ ?_) <;> intro h <;> try (exfalso; omega)) | refine ev_bd rfl ?_ | refine ev_bd0 rfl ?_) | ((with_reducible refine eL ?_); first | ((with_reducible refine ev_lenm ?_ ?_); · rfl) | refine ev_lenom rfl rfl ?_ | refine ev_lenfm rfl rfl ?_ | refine ev_lenoc rfl rfl rfl ?_ | refine ev_lenc rfl rfl ?_ | refine ev_leno rfl rfl ?_ | refine ev_slen rfl ?_ | refine ev_bd rfl ?_ | refine ev_bd0 rfl ?_) | ((with_reducible refine eK ?_); first | (with_reducible first | refine ev_ct ?_ | refine ev_cf ?_) | ((with_reducible refine ev_cond ?_ ?_) <;> intro h)) | ((with_reducible refine eD ?_); first | refine ev_bd rfl ?_ | refine ev_bd0 rfl ?_) | ( exact s_PlanOkS_L7 s hs hp0 hok _ i (by omega) (fun hd hf => ih (by omega) (all_step hp ⟨ho i (by omega), hd, hf⟩) _ _ rfl) (fun h9 => ⟨congrArg bB (by rw [planOk, hok, Bool.true_and]; exact (all_false (i := i) (by omega) fun h8 => h9 h8.2).symm), rfl⟩) 0 (by omega) (fun k hk => by omega) 0 0 rfl) | refine ev_ret rfl ?_)
  exact ⟨congrArg bB (by rw [planOk, hok, Bool.true_and]; exact (all_true hp (by omega)).symm), rfl⟩
theorem s_PlanOkS (s : List TPkg) (hs : s.length ≤ 2000000) (hp0 : PL s) : Ex (fun m => callF prg m 22 [.sl 4 (s.map ePkg)] []) (bB (planOk s)) [] := by
  refine ev_is.1 ?_
  (refine U22 (nl := 0) rfl ?_; unfold B22)
  repeat' (first | ((with_reducible refine eG ?_); first | (with_reducible first | refine ev_gtt ?_ | refine ev_gff ?_ | refine ev_gtf ?_ | refine ev_gft ?_ | refine ev_gu ?_) | refine ev_bd rfl ?_ | refine ev_bd0 rfl ?_ | ((with_reducible refine ev_gB ?_ ?_) <;> intro h)) | ((with_reducible refine eC ?_); first | ((refine ev_callB (s_StoreOkS s hs hp0) rfl rfl ?_ rfl rfl ?_ ?_); (focus first | exact .inl rfl | exact .inr rfl | (refine .inr ?_; simp [flagC, ownF, hasSl3, hasSl1, SO.hasSl, List.all_map, flatSV, SV.cells, Function.comp_def]; done)); (all_goals (intro h)); (all_goals (try (exfalso; simp_all; done)))) | ((refine ev_callB (s_l13One s hs) rfl rfl ?_ rfl rfl ?_ ?_); (focus first | exact .inl rfl | exact .inr rfl | (refine .inr ?_; simp [flagC, ownF, hasSl3, hasSl1, SO.hasSl, List.all_map, flatSV, SV.cells, Function.comp_def]; done)); (all_goals (intro h)); (all_goals (try (exfalso; simp_all; done))))) | ((with_reducible refine eK ?_); first | (with_reducible first | refine ev_ct ?_ | refine ev_cf ?_) | ((with_reducible refine ev_cond ?_ ?_) <;> intro h)) | ((with_reducible refine eD ?_); first | refine ev_bd rfl ?_ | refine ev_bd0 rfl ?_ | ((with_reducible refine ev_pickB ?_ ?_) <;> intro h)) | ( exact s_PlanOkS_L4 s hs hp0 (by assumption) (by assumption) 0 (by omega) (fun j hj => by omega) 0 0 rfl) | refine ev_ret rfl ?_)
  all_goals first
    | (refine ⟨congrArg bB ?_, rfl⟩; simp [planOk, *]; done)
    | (refine ⟨congrArg bB ?_, rfl⟩
       have h1 : plansAt s = false := by
         refine decide_eq_false fun h9 => ?_
         have h8 : oneOk s = true := decide_eq_true fun i hi => (h9 i hi).1
         simp_all
       simp [planOk, h1])
    | trace_state

theorem s_bears1 (name ver : Int) (F : List TFile) (D : List TDep) (dn dl : Int) : Ex (fun m => callF prg m 98 [.ag [iI name, iI ver, .sl 2 (F.map eFile), .sl 2 (D.map eDep)], .ptr 0 0] [.box [iI dn, iI dl]]) (bB (decide (name = dn ∧ dl ≤ ver))) [.box [iI dn, iI dl]] := by
  refine ev_is.1 ?_
  (refine U98 (nl := 1) rfl ?_; unfold B98)
  repeat' (first | ((with_reducible refine eG ?_); first | (with_reducible first | refine ev_gtt ?_ | refine ev_gff ?_ | refine ev_gtf ?_ | refine ev_gft ?_ | refine ev_gu ?_) | refine ev_bd rfl ?_ | refine ev_bd0 rfl ?_ | ((with_reducible refine ev_gB ?_ ?_) <;> intro h)) | ((with_reducible refine eB ?_); first | ((with_reducible first | refine ev_geq ?_ ?_ | refine ev_eql ?_ ?_) <;> intro h <;> try (exfalso; omega)) | refine ev_bd rfl ?_ | refine ev_bd0 rfl ?_) | ((with_reducible refine eO ?_); first | refine ev_bd rfl ?_ | (refine ev_bdB rfl ?_ ?_ <;> intro h <;> try (exfalso; simp_all; done)) | refine ev_bd0 rfl ?_ | (refine ev_ldm rfl ?_ rfl ?_; (focus omega)) | (refine ev_ldmB rfl ?_ rfl ?_ ?_; (focus omega); (all_goals intro h))) | ((with_reducible refine eD ?_); first | refine ev_bd rfl ?_ | refine ev_bd0 rfl ?_ | ((with_reducible refine ev_pickB ?_ ?_) <;> intro h)) | refine ev_ret rfl ?_)
  all_goals (refine ⟨congrArg (fun b => SV.v (Value.bool b)) ?_, rfl⟩; first | (simp_all []; done) | (simp_all []; omega) | (simp [] at *; omega) | (simp []; omega) | grind [] | trace_state)
theorem s_IxPkg_L (s : List TPkg) (hs : s.length ≤ 2000000) (dn dl : Int) : ∀ i, i ≤ s.length → (∀ j, j < i → ¬ ((nth s j).name = dn ∧ dl ≤ (nth s j).ver)) → ∀ (k : Int) (c : Nat), k = i →
    Ev (fun n => L115_2 (callF prg n) (n + 1) 1 (n + 1 - c) (.sl 4 (s.map ePkg)) (.fn 98 [.ptr 0 0]) (iI s.length) (iI k) [.box [iI dn, iI dl]]) (fun y os => ∃ z : Int, y = iI z ∧ os = [.box [iI dn, iI dl]] ∧ (0 ≤ z ↔ bearsP s dn dl)) := by
  refine up_ind ?_
  intro i hi ih hp k c hk
  subst hk
  (refine UL115_2 ?_; unfold LB115_2)
  repeat' (first | ((with_reducible refine eB ?_); first | ((with_reducible refine ev_lss ?_ ?_) <;> intro h <;> try (exfalso; omega)) | ((with_reducible refine ev_add ?_ ?_); · omega) | refine ev_bd rfl ?_ | refine ev_bd0 rfl ?_) | ((with_reducible refine eI ?_); first | ((with_reducible refine ev_idxn ?_ ?_ ?_); (· rfl); · omega) | (refine ev_idxon rfl rfl ?_ ?_; (· first | omega | (simp only [List.length_cons, List.length_nil, List.length_map, List.length_append]; omega))) | (refine ev_idxfn rfl rfl ?_ ?_; (focus omega)) | ((with_reducible refine ev_idx ?_ ?_ ?_); (· rfl); · omega) | (refine ev_idxo rfl rfl ?_ ?_; (· first | omega | (simp only [List.length_cons, List.length_nil, List.length_map, List.length_append]; omega))) | (refine ev_idxf rfl rfl ?_ ?_; (focus omega)) | refine ev_bd rfl ?_ | refine ev_bd0 rfl ?_) | ((with_reducible refine eC ?_); first | ((refine ev_callD (s_bears1 _ _ _ _ _ _) rfl rfl ?_ rfl rfl ?_ ?_); (focus first | exact .inl rfl | exact .inr rfl | (refine .inr ?_; simp [flagC, ownF, hasSl3, hasSl1, SO.hasSl, List.all_map, flatSV, SV.cells, Function.comp_def]; done)); (all_goals (intro h)); (all_goals (try (exfalso; first | omega | exact h rfl | exact h ⟨rfl, rfl, rfl⟩))))) | (with_reducible refine ev_callee ?_) | ((with_reducible refine eK ?_); first | (with_reducible first | refine ev_ct ?_ | refine ev_cf ?_) | ((with_reducible refine ev_cond ?_ ?_) <;> intro h)) | ((with_reducible refine eO ?_); first | refine ev_bd rfl ?_ | (refine ev_bdB rfl ?_ ?_ <;> intro h <;> try (exfalso; simp_all; done)) | refine ev_bd0 rfl ?_ | (refine ev_ldm rfl ?_ rfl ?_; (focus omega)) | (refine ev_ldmB rfl ?_ rfl ?_ ?_; (focus omega); (all_goals intro h))) | ((with_reducible refine eD ?_); first | refine ev_bd rfl ?_ | refine ev_bd0 rfl ?_) | ((with_reducible refine ih ?_ (all_step hp ?_) _ _ ?_) <;> (first | omega | assumption | (simp only [*, List.map_append, List.length_append, List.length_cons, List.length_nil, List.map_cons, List.map_nil]; done) | (simp_all; done) | (simp_all; omega))) | refine ev_ret rfl ?_)
  · exact ⟨_, rfl, rfl, ⟨fun _ => ⟨_, nth_mem (l := s) (k := i) (by omega), h⟩, fun _ => by omega⟩⟩
  · refine ⟨_, rfl, rfl, ⟨fun h9 => by omega, fun h9 => ?_⟩⟩
    obtain ⟨q, hq, h8⟩ := h9
    obtain ⟨j, hj, rfl⟩ := mem_nth hq
    exact absurd h8 (hp j (by omega))
theorem s_IxPkg (s : List TPkg) (hs : s.length ≤ 2000000) (dn dl : Int) : ∃ z : Int, (0 ≤ z ↔ bearsP s dn dl) ∧ Ex (fun m => callF prg m 115 [.sl 4 (s.map ePkg), .fn 98 [.ptr 0 0]] [.box [iI dn, iI dl]]) (iI z) [.box [iI dn, iI dl]] := by
  have key : Ev (fun m => callF prg m 115 [.sl 4 (s.map ePkg), .fn 98 [.ptr 0 0]] [.box [iI dn, iI dl]]) (fun y os => ∃ z : Int, y = iI z ∧ os = [.box [iI dn, iI dl]] ∧ (0 ≤ z ↔ bearsP s dn dl)) := by
    (refine U115 (nl := 1) rfl ?_; unfold B115)
    repeat' (first | ((with_reducible refine eL ?_); first | ((with_reducible refine ev_lenm ?_ ?_); · rfl) | refine ev_lenom rfl rfl ?_ | refine ev_lenfm rfl rfl ?_ | refine ev_lenoc rfl rfl rfl ?_ | refine ev_lenc rfl rfl ?_ | refine ev_leno rfl rfl ?_ | refine ev_slen rfl ?_ | refine ev_bd rfl ?_ | refine ev_bd0 rfl ?_) | ((with_reducible refine eD ?_); first | refine ev_bd rfl ?_ | refine ev_bd0 rfl ?_) | ( exact s_IxPkg_L s hs dn dl 0 (by omega) (fun j hj => by omega) 0 0 rfl) | refine ev_ret rfl ?_)
  obtain ⟨_, _, ⟨z, rfl, rfl, hz⟩, he⟩ := key
  exact ⟨z, hz, he⟩
theorem s_CtPkg (s : List TPkg) (hs : s.length ≤ 2000000) (dn dl : Int) : Ex (fun m => callF prg m 97 [.sl 4 (s.map ePkg), .fn 98 [.ptr 0 0]] [.box [iI dn, iI dl]]) (bB (decide (bearsP s dn dl))) [.box [iI dn, iI dl]] := by
  refine ev_is.1 ?_
  (refine U97 (nl := 1) rfl ?_; unfold B97)
  repeat' (first | ((with_reducible refine eB ?_); first | ((with_reducible refine ev_geq ?_ ?_) <;> intro h <;> try (exfalso; omega)) | refine ev_bd rfl ?_ | refine ev_bd0 rfl ?_) | ((with_reducible refine eC ?_); first | ((refine ev_callN (s_IxPkg s hs dn dl) rfl rfl ?_ (fun _ => rfl) ?_); (· first | exact .inl rfl | exact .inr (fun _ => rfl)); (first | (have q0 := z3; clear q0; intro z4 hz4) | (have q0 := z2; clear q0; intro z3 hz3) | (have q0 := z; clear q0; intro z2 hz2) | (intro z hz)))) | ((with_reducible refine eD ?_); first | refine ev_bd rfl ?_ | refine ev_bd0 rfl ?_) | refine ev_ret rfl ?_)
  all_goals exact ⟨congrArg bB (by simp [← hz]; omega), rfl⟩
theorem s_bears (s : List TPkg) (hs : s.length ≤ 2000000) (dn dl : Int) : Ex (fun m => callF prg m 64 [.sl 4 (s.map ePkg), .ag [iI dn, iI dl]] []) (bB (decide (bearsP s dn dl))) [] := by
  refine ev_is.1 ?_
  (refine U64 (nl := 0) rfl ?_; unfold B64)
  repeat' (first | ((with_reducible refine eC ?_); first | ((refine ev_callD (s_CtPkg s hs dn dl) rfl rfl ?_ rfl rfl ?_ ?_); (focus first | exact .inl rfl | exact .inr rfl | (refine .inr ?_; simp [flagC, ownF, hasSl3, hasSl1, SO.hasSl, List.all_map, flatSV, SV.cells, Function.comp_def]; done)); (all_goals (intro h)); (all_goals (try (exfalso; first | omega | exact h rfl | exact h ⟨rfl, rfl, rfl⟩))))) | ((with_reducible refine eD ?_); first | refine ev_bd rfl ?_ | refine ev_bd0 rfl ?_) | refine ev_ret rfl ?_)
  all_goals exact ⟨congrArg bB (by simp [h]), rfl⟩
theorem s_PlanOk1 (s : List TPkg) (hs : s.length ≤ 2000000) (dn dl : Int) : Ex (fun m => callF prg m 63 [.ag [iI dn, iI dl], .ptr 0 0] [.box [.sl 4 (s.map ePkg)]]) (bB (decide (¬ bearsP s dn dl))) [.box [.sl 4 (s.map ePkg)]] := by
  refine ev_is.1 ?_
  (refine U63 (nl := 1) rfl ?_; unfold B63)
  repeat' (first | ((with_reducible refine eC ?_); first | ((refine ev_callD (s_bears s hs dn dl) rfl rfl ?_ rfl rfl ?_ ?_); (focus first | exact .inl rfl | exact .inr rfl | (refine .inr ?_; simp [flagC, ownF, hasSl3, hasSl1, SO.hasSl, List.all_map, flatSV, SV.cells, Function.comp_def]; done)); (all_goals (intro h)); (all_goals (try (exfalso; first | omega | exact h rfl | exact h ⟨rfl, rfl, rfl⟩))))) | ((with_reducible refine eO ?_); first | refine ev_bd rfl ?_ | (refine ev_bdB rfl ?_ ?_ <;> intro h <;> try (exfalso; simp_all; done)) | refine ev_bd0 rfl ?_ | (refine ev_ldm rfl ?_ rfl ?_; (focus omega)) | (refine ev_ldmB rfl ?_ rfl ?_ ?_; (focus omega); (all_goals intro h))) | ((with_reducible refine eD ?_); first | refine ev_bd rfl ?_ | refine ev_bd0 rfl ?_) | refine ev_ret rfl ?_)
  all_goals exact ⟨congrArg bB (by simp [h]), rfl⟩
theorem s_IxDep_L (s : List TPkg) (hs : s.length ≤ 2000000) (D : List TDep) (hD : D.length ≤ 2000000) : ∀ i, i ≤ D.length → (∀ j, j < i → bearsP s (nth D j).name (nth D j).least) → ∀ (k : Int) (c : Nat), k = i →
    Ev (fun n => L96_2 (callF prg n) (n + 1) 1 (n + 1 - c) (.sl 2 (D.map eDep)) (.fn 63 [.ptr 0 0]) (iI D.length) (iI k) [.box [.sl 4 (s.map ePkg)]]) (fun y os => ∃ z : Int, y = iI z ∧ os = [.box [.sl 4 (s.map ePkg)]] ∧ (0 ≤ z ↔ ¬ ∀ j, j < D.length → bearsP s (nth D j).name (nth D j).least)) := by
  refine up_ind ?_
  intro i hi ih hp k c hk
  subst hk
  (refine UL96_2 ?_; unfold LB96_2)
  repeat' (first | ((with_reducible refine eB ?_); first | ((with_reducible refine ev_lss ?_ ?_) <;> intro h <;> try (exfalso; omega)) | ((with_reducible refine ev_add ?_ ?_); · omega) | refine ev_bd rfl ?_ | refine ev_bd0 rfl ?_) | ((with_reducible refine eI ?_); first | ((with_reducible refine ev_idxn ?_ ?_ ?_); (· rfl); · omega) | (refine ev_idxon rfl rfl ?_ ?_; (· first | omega | (simp only [List.length_cons, List.length_nil, List.length_map, List.length_append]; omega))) | (refine ev_idxfn rfl rfl ?_ ?_; (focus omega)) | ((with_reducible refine ev_idx ?_ ?_ ?_); (· rfl); · omega) | (refine ev_idxo rfl rfl ?_ ?_; (· first | omega | (simp only [List.length_cons, List.length_nil, List.length_map, List.length_append]; omega))) | (refine ev_idxf rfl rfl ?_ ?_; (focus omega)) | refine ev_bd rfl ?_ | refine ev_bd0 rfl ?_) | ((with_reducible refine eC ?_); first | ((refine ev_callD (s_PlanOk1 s hs _ _) rfl rfl ?_ rfl rfl ?_ ?_); (focus first | exact .inl rfl | exact .inr rfl | (refine .inr ?_; simp [flagC, ownF, hasSl3, hasSl1, SO.hasSl, List.all_map, flatSV, SV.cells, Function.comp_def]; done)); (all_goals (intro h)); (all_goals (try (exfalso; first | omega | exact h rfl | exact h ⟨rfl, rfl, rfl⟩))))) | (with_reducible refine ev_callee ?_) | ((with_reducible refine eK ?_); first | (with_reducible first | refine ev_ct ?_ | refine ev_cf ?_) | ((with_reducible refine ev_cond ?_ ?_) <;> intro h)) | ((with_reducible refine eO ?_); first | refine ev_bd rfl ?_ | (refine ev_bdB rfl ?_ ?_ <;> intro h <;> try (exfalso; simp_all; done)) | refine ev_bd0 rfl ?_ | (refine ev_ldm rfl ?_ rfl ?_; (focus omega)) | (refine ev_ldmB rfl ?_ rfl ?_ ?_; (focus omega); (all_goals intro h))) | ((with_reducible refine eD ?_); first | refine ev_bd rfl ?_ | refine ev_bd0 rfl ?_) | ((with_reducible refine ih ?_ (all_step hp ?_) _ _ ?_) <;> (first | omega | assumption | ((exact Decidable.not_not.1 h)) | (simp only [*, List.map_append, List.length_append, List.length_cons, List.length_nil, List.map_cons, List.map_nil]; done) | (simp_all; done) | (simp_all; omega))) | refine ev_ret rfl ?_)
  · exact ⟨_, rfl, rfl, ⟨fun _ h9 => h (h9 i (by omega)), fun _ => by omega⟩⟩
  · exact ⟨_, rfl, rfl, ⟨fun h9 => by omega, fun h9 => absurd (fun j hj => hp j (by omega)) h9⟩⟩
theorem s_IxDep (s : List TPkg) (hs : s.length ≤ 2000000) (D : List TDep) (hD : D.length ≤ 2000000) : ∃ z : Int, (0 ≤ z ↔ ¬ ∀ j, j < D.length → bearsP s (nth D j).name (nth D j).least) ∧ Ex (fun m => callF prg m 96 [.sl 2 (D.map eDep), .fn 63 [.ptr 0 0]] [.box [.sl 4 (s.map ePkg)]]) (iI z) [.box [.sl 4 (s.map ePkg)]] := by
  have key : Ev (fun m => callF prg m 96 [.sl 2 (D.map eDep), .fn 63 [.ptr 0 0]] [.box [.sl 4 (s.map ePkg)]]) (fun y os => ∃ z : Int, y = iI z ∧ os = [.box [.sl 4 (s.map ePkg)]] ∧ (0 ≤ z ↔ ¬ ∀ j, j < D.length → bearsP s (nth D j).name (nth D j).least)) := by
    (refine U96 (nl := 1) rfl ?_; unfold B96)
    repeat' (first | ((with_reducible refine eL ?_); first | ((with_reducible refine ev_lenm ?_ ?_); · rfl) | refine ev_lenom rfl rfl ?_ | refine ev_lenfm rfl rfl ?_ | refine ev_lenoc rfl rfl rfl ?_ | refine ev_lenc rfl rfl ?_ | refine ev_leno rfl rfl ?_ | refine ev_slen rfl ?_ | refine ev_bd rfl ?_ | refine ev_bd0 rfl ?_) | ((with_reducible refine eD ?_); first | refine ev_bd rfl ?_ | refine ev_bd0 rfl ?_) | ( exact s_IxDep_L s hs D hD 0 (by omega) (fun j hj => by omega) 0 0 rfl) | refine ev_ret rfl ?_)
  obtain ⟨_, _, ⟨z, rfl, rfl, hz⟩, he⟩ := key
  exact ⟨z, hz, he⟩
theorem s_CtDep (s : List TPkg) (hs : s.length ≤ 2000000) (D : List TDep) (hD : D.length ≤ 2000000) : Ex (fun m => callF prg m 62 [.sl 2 (D.map eDep), .fn 63 [.ptr 0 0]] [.box [.sl 4 (s.map ePkg)]]) (bB (decide (¬ ∀ j, j < D.length → bearsP s (nth D j).name (nth D j).least))) [.box [.sl 4 (s.map ePkg)]] := by
  refine ev_is.1 ?_
  (refine U62 (nl := 1) rfl ?_; unfold B62)
  repeat' (first | ((with_reducible refine eB ?_); first | ((with_reducible refine ev_geq ?_ ?_) <;> intro h <;> try (exfalso; omega)) | refine ev_bd rfl ?_ | refine ev_bd0 rfl ?_) | ((with_reducible refine eC ?_); first | ((refine ev_callN (s_IxDep s hs D hD) rfl rfl ?_ (fun _ => rfl) ?_); (· first | exact .inl rfl | exact .inr (fun _ => rfl)); (first | (have q0 := z3; clear q0; intro z4 hz4) | (have q0 := z2; clear q0; intro z3 hz3) | (have q0 := z; clear q0; intro z2 hz2) | (intro z hz)))) | ((with_reducible refine eD ?_); first | refine ev_bd rfl ?_ | refine ev_bd0 rfl ?_) | refine ev_ret rfl ?_)
  · exact ⟨congrArg bB (decide_eq_true (hz.1 h)).symm, rfl⟩
  · exact ⟨congrArg bB (decide_eq_false fun h9 => h (hz.2 h9)).symm, rfl⟩

end Go.Proofs.Ytgeolifkmiglgaa
