/- The evaluator S and what it says of functions: V3. -/
import Derived.Test.YtikennabfbkdhaaV2
/- Roots and indexes: what is ok, and what is the same. -/
namespace Go.Proofs.Ytikennabfbkdhaa
open Go
set_option linter.unusedVariables false
set_option linter.unusedSimpArgs false
set_option maxHeartbeats 4000000
structure TRoot where
  num : Int
  keys : List Int
  need : Int
  deriving Inhabited, DecidableEq
structure TMeta where
  name : Int
  ver : Int
  sum : Int
  deriving Inhabited, DecidableEq
structure TIndex where
  num : Int
  til : Int
  metas : List TMeta
  deriving Inhabited, DecidableEq
structure TTrust where
  root : TRoot
  has : Bool
  index : TIndex
  deriving Inhabited, DecidableEq
theorem TMeta.eq3 {m n : TMeta} (h : m.name = n.name ∧ m.ver = n.ver ∧ m.sum = n.sum) : m = n := by
  cases m; cases n; simp_all
abbrev eMeta (m : TMeta) : SV := .ag [iI m.name, iI m.ver, iI m.sum]
def keyAt (l : List Int) (i : Nat) : Prop := 1 ≤ nth l i ∧ nth l i ≤ 6 ∧ (0 < i → nth l (i - 1) < nth l i)
instance (l : List Int) (i : Nat) : Decidable (keyAt l i) := by unfold keyAt; exact inferInstance
def keysOk (l : List Int) : Bool := decide (∀ i, i < l.length → keyAt l i)
theorem s_KeysOkS_L (l : List Int) (hl : l.length ≤ 140737488355328) : ∀ i, i ≤ l.length → (∀ j, j < i → keyAt l j) → ∀ (k : Int) (c : Nat), k = i →
    Ev (fun n => L18_2 (callF prg n) (n + 1) 0 (n + 1 - c) (.sl 1 (l.map iI)) (iI k) []) (Is (bB (keysOk l)) []) := by
  refine up_ind ?_
  intro i hi ih hp k c hk
  subst hk
  (refine UL18_2 ?_; unfold LB18_2)
  repeat' (first | ((with_reducible refine eG ?_); first | (with_reducible first | refine ev_gtt ?_ | refine ev_gff ?_ | refine ev_gtf ?_ | refine ev_gft ?_ | refine ev_gu ?_) | refine ev_bd rfl ?_ | refine ev_bd0 rfl ?_ | ((with_reducible refine ev_gB ?_ ?_) <;> intro h)) | ((with_reducible refine eB ?_); first | ((with_reducible first | refine ev_lss ?_ ?_ | refine ev_gtr ?_ ?_ | refine ev_geq ?_ ?_) <;> intro h <;> try (exfalso; omega)) | ((with_reducible first | refine ev_add ?_ ?_ | refine ev_sub ?_ ?_); · omega) | refine ev_bd rfl ?_ | refine ev_bd0 rfl ?_) | ((with_reducible refine eL ?_); first | ((with_reducible refine ev_lenm ?_ ?_); · rfl) | refine ev_lenom rfl rfl ?_ | refine ev_lenoc rfl rfl rfl ?_ | refine ev_lenc rfl rfl ?_ | refine ev_leno rfl rfl ?_ | refine ev_slen rfl ?_ | refine ev_bd rfl ?_ | refine ev_bd0 rfl ?_) | ((with_reducible refine eI ?_); first | ((with_reducible refine ev_idx ?_ ?_ ?_); (· rfl); · omega) | (refine ev_idxo rfl rfl ?_ ?_; (· first | omega | (simp only [List.length_cons, List.length_nil, List.length_map, List.length_append]; omega))) | refine ev_bd rfl ?_ | refine ev_bd0 rfl ?_) | ((with_reducible refine eC ?_); first | ((refine ev_callD (s_l6In ..) rfl rfl ?_ rfl rfl ?_ ?_); (focus first | exact .inl rfl | exact .inr rfl | (refine .inr ?_; simp [flagC, ownF, hasSl3, hasSl1, SO.hasSl, List.all_map, flatSV, SV.cells, Function.comp_def]; done)); (all_goals (intro h)); (all_goals (try (exfalso; first | omega | exact h rfl | exact h ⟨rfl, rfl, rfl⟩))))) | ((with_reducible refine eK ?_); first | (with_reducible first | refine ev_ct ?_ | refine ev_cf ?_) | ((with_reducible refine ev_cond ?_ ?_) <;> intro h)) | ((with_reducible refine eO ?_); first | refine ev_bd rfl ?_ | (refine ev_bdB rfl ?_ ?_ <;> intro h <;> try (exfalso; simp_all; done)) | refine ev_bd0 rfl ?_) | ((with_reducible refine eD ?_); first | refine ev_bd rfl ?_ | refine ev_bd0 rfl ?_ | ((with_reducible refine ev_pickB ?_ ?_) <;> intro h)) | ((with_reducible refine ih ?_ (all_step hp ?_) _ _ ?_) <;> (first | omega | assumption | ((unfold keyAt; (try simp only [Int.toNat_natCast, tn_sub1, tn_add1] at *); omega)) | (simp only [*, List.map_append, List.length_append, List.length_cons, List.length_nil, List.map_cons, List.map_nil]; done) | (simp_all; done) | (simp_all; omega))) | refine ev_ret rfl ?_)
  all_goals first | exact ⟨congrArg bB (Eq.symm (all_true hp (by omega))), rfl⟩ | exact ⟨congrArg bB (Eq.symm (all_false (i := i) (by omega) (by unfold keyAt; (try simp only [Int.toNat_natCast, tn_sub1, tn_add1] at *); omega))), rfl⟩ | trace_state
theorem s_KeysOkS (l : List Int) (hl : l.length ≤ 140737488355328) : Ex (fun m => callF prg m 18 [.sl 1 (l.map iI)] []) (bB (keysOk l)) [] := by
  refine ev_is.1 ?_
  (refine U18 (nl := 0) rfl ?_; unfold B18)
  exact s_KeysOkS_L l hl 0 (by omega) (fun j hj => by omega) 0 0 rfl
theorem s_KeysOkI_L (l : List Int) (hl : l.length ≤ 140737488355328) : ∀ i, i ≤ l.length → (∀ j, j < i → keyAt l j) → ∀ (k : Int) (c : Nat), k = i →
    Ev (fun n => L24_2 (callF prg n) (n + 1) 0 (n + 1 - c) (.sl 1 (l.map iI)) (.sl 1 (l.map iI)) (iI l.length) (iI k) []) (Is (bB (keysOk l)) []) := by
  refine up_ind ?_
  intro i hi ih hp k c hk
  subst hk
  (refine UL24_2 ?_; unfold LB24_2)
  repeat' (first | ((with_reducible refine eG ?_); first | (with_reducible first | refine ev_gtt ?_ | refine ev_gff ?_ | refine ev_gtf ?_ | refine ev_gft ?_ | refine ev_gu ?_) | refine ev_bd rfl ?_ | refine ev_bd0 rfl ?_ | ((with_reducible refine ev_gB ?_ ?_) <;> intro h)) | ((with_reducible refine eB ?_); first | ((with_reducible first | refine ev_lss ?_ ?_ | refine ev_leq ?_ ?_ | refine ev_gtr ?_ ?_) <;> intro h <;> try (exfalso; omega)) | ((with_reducible first | refine ev_add ?_ ?_ | refine ev_sub ?_ ?_); · omega) | refine ev_bd rfl ?_ | refine ev_bd0 rfl ?_) | ((with_reducible refine eI ?_); first | ((with_reducible refine ev_idx ?_ ?_ ?_); (· rfl); · omega) | (refine ev_idxo rfl rfl ?_ ?_; (· first | omega | (simp only [List.length_cons, List.length_nil, List.length_map, List.length_append]; omega))) | refine ev_bd rfl ?_ | refine ev_bd0 rfl ?_) | ((with_reducible refine eC ?_); first | ((refine ev_callD (s_in ..) rfl rfl ?_ rfl rfl ?_ ?_); (focus first | exact .inl rfl | exact .inr rfl | (refine .inr ?_; simp [flagC, ownF, hasSl3, hasSl1, SO.hasSl, List.all_map, flatSV, SV.cells, Function.comp_def]; done)); (all_goals (intro h)); (all_goals (try (exfalso; first | omega | exact h rfl | exact h ⟨rfl, rfl, rfl⟩))))) | ((with_reducible refine eK ?_); first | (with_reducible first | refine ev_ct ?_ | refine ev_cf ?_) | ((with_reducible refine ev_cond ?_ ?_) <;> intro h)) | ((with_reducible refine eO ?_); first | refine ev_bd rfl ?_ | (refine ev_bdB rfl ?_ ?_ <;> intro h <;> try (exfalso; simp_all; done)) | refine ev_bd0 rfl ?_) | ((with_reducible refine eD ?_); first | refine ev_bd rfl ?_ | refine ev_bd0 rfl ?_ | ((with_reducible refine ev_pickB ?_ ?_) <;> intro h)) | ((with_reducible refine ih ?_ (all_step hp ?_) _ _ ?_) <;> (first | omega | assumption | ((unfold keyAt; (try simp only [Int.toNat_natCast, tn_sub1, tn_add1] at *); omega)) | (simp only [*, List.map_append, List.length_append, List.length_cons, List.length_nil, List.map_cons, List.map_nil]; done) | (simp_all; done) | (simp_all; omega))) | refine ev_ret rfl ?_)
  all_goals first | exact ⟨congrArg bB (Eq.symm (all_true hp (by omega))), rfl⟩ | exact ⟨congrArg bB (Eq.symm (all_false (i := i) (by omega) (by unfold keyAt; (try simp only [Int.toNat_natCast, tn_sub1, tn_add1] at *); omega))), rfl⟩ | trace_state
theorem s_KeysOkI (l : List Int) (hl : l.length ≤ 140737488355328) : Ex (fun m => callF prg m 24 [.sl 1 (l.map iI)] []) (bB (keysOk l)) [] := by
  refine ev_is.1 ?_
  (refine U24 (nl := 0) rfl ?_; unfold B24)
  repeat' (first | ((with_reducible refine eL ?_); first | ((with_reducible refine ev_lenm ?_ ?_); · rfl) | refine ev_lenom rfl rfl ?_ | refine ev_lenoc rfl rfl rfl ?_ | refine ev_lenc rfl rfl ?_ | refine ev_leno rfl rfl ?_ | refine ev_slen rfl ?_ | refine ev_bd rfl ?_ | refine ev_bd0 rfl ?_) | ((with_reducible refine eD ?_); first | refine ev_bd rfl ?_ | refine ev_bd0 rfl ?_) | ( exact s_KeysOkI_L l hl 0 (by omega) (fun j hj => by omega) 0 0 rfl) | refine ev_ret rfl ?_)
def rootOk (num : Int) (keys : List Int) (need : Int) : Bool := decide (1 ≤ num ∧ num ≤ 9) && keysOk keys && decide (1 ≤ need ∧ need ≤ keys.length)
theorem rootOk_iff {num : Int} {keys : List Int} {need : Int} : rootOk num keys need = true ↔ (1 ≤ num ∧ num ≤ 9) ∧ keysOk keys = true ∧ 1 ≤ need ∧ need ≤ keys.length := by
  simp [rootOk, and_assoc]
theorem s_RootOkS (num : Int) (keys : List Int) (need : Int) (hl : keys.length ≤ 140737488355328) : Ex (fun m => callF prg m 17 [.ag [iI num, .sl 1 (keys.map iI), iI need]] []) (bB (rootOk num keys need)) [] := by
  refine ev_is.1 ?_
  (refine U17 (nl := 0) rfl ?_; unfold B17)
  repeat' (first | ((with_reducible refine eG ?_); first | (with_reducible first | refine ev_gtt ?_ | refine ev_gff ?_ | refine ev_gtf ?_ | refine ev_gft ?_ | refine ev_gu ?_) | refine ev_bd rfl ?_ | refine ev_bd0 rfl ?_ | ((with_reducible refine ev_gB ?_ ?_) <;> intro h)) | ((with_reducible refine eL ?_); first | ((with_reducible refine ev_lenm ?_ ?_); · rfl) | refine ev_lenom rfl rfl ?_ | refine ev_lenoc rfl rfl rfl ?_ | refine ev_lenc rfl rfl ?_ | refine ev_leno rfl rfl ?_ | refine ev_slen rfl ?_ | refine ev_bd rfl ?_ | refine ev_bd0 rfl ?_) | ((with_reducible refine eC ?_); first | ((refine ev_callD (s_l6In ..) rfl rfl ?_ rfl rfl ?_ ?_); (focus first | exact .inl rfl | exact .inr rfl | (refine .inr ?_; simp [flagC, ownF, hasSl3, hasSl1, SO.hasSl, List.all_map, flatSV, SV.cells, Function.comp_def]; done)); (all_goals (intro h)); (all_goals (try (exfalso; first | omega | exact h rfl | exact h ⟨rfl, rfl, rfl⟩)))) | ((refine ev_callB (s_KeysOkS _ hl) rfl rfl ?_ rfl rfl ?_ ?_); (focus first | exact .inl rfl | exact .inr rfl | (refine .inr ?_; simp [flagC, ownF, hasSl3, hasSl1, SO.hasSl, List.all_map, flatSV, SV.cells, Function.comp_def]; done)); (all_goals (intro h)); (all_goals (try (exfalso; simp_all; done))))) | ((with_reducible refine eO ?_); first | refine ev_bd rfl ?_ | (refine ev_bdB rfl ?_ ?_ <;> intro h <;> try (exfalso; simp_all; done)) | refine ev_bd0 rfl ?_) | ((with_reducible refine eD ?_); first | refine ev_bd rfl ?_ | refine ev_bd0 rfl ?_ | ((with_reducible refine ev_pickB ?_ ?_) <;> intro h)) | refine ev_ret rfl ?_)
  all_goals (refine ⟨congrArg (fun b => SV.v (Value.bool b)) ?_, rfl⟩; first | (simp_all [rootOk]; done) | (simp_all [rootOk]; omega) | (simp [rootOk] at *; omega) | (simp [rootOk]; omega) | grind [rootOk] | trace_state)
theorem s_RootOkI (num : Int) (keys : List Int) (need : Int) (hl : keys.length ≤ 140737488355328) : Ex (fun m => callF prg m 23 [.ag [iI num, .sl 1 (keys.map iI), iI need]] []) (bB (rootOk num keys need)) [] := by
  refine ev_is.1 ?_
  (refine U23 (nl := 0) rfl ?_; unfold B23)
  repeat' (first | ((with_reducible refine eG ?_); first | (with_reducible first | refine ev_gtt ?_ | refine ev_gff ?_ | refine ev_gtf ?_ | refine ev_gft ?_ | refine ev_gu ?_) | refine ev_bd rfl ?_ | refine ev_bd0 rfl ?_ | ((with_reducible refine ev_gB ?_ ?_) <;> intro h)) | ((with_reducible refine eL ?_); first | ((with_reducible refine ev_lenm ?_ ?_); · rfl) | refine ev_lenom rfl rfl ?_ | refine ev_lenoc rfl rfl rfl ?_ | refine ev_lenc rfl rfl ?_ | refine ev_leno rfl rfl ?_ | refine ev_slen rfl ?_ | refine ev_bd rfl ?_ | refine ev_bd0 rfl ?_) | ((with_reducible refine eC ?_); first | ((refine ev_callD (s_in ..) rfl rfl ?_ rfl rfl ?_ ?_); (focus first | exact .inl rfl | exact .inr rfl | (refine .inr ?_; simp [flagC, ownF, hasSl3, hasSl1, SO.hasSl, List.all_map, flatSV, SV.cells, Function.comp_def]; done)); (all_goals (intro h)); (all_goals (try (exfalso; first | omega | exact h rfl | exact h ⟨rfl, rfl, rfl⟩)))) | ((refine ev_callB (s_KeysOkI _ hl) rfl rfl ?_ rfl rfl ?_ ?_); (focus first | exact .inl rfl | exact .inr rfl | (refine .inr ?_; simp [flagC, ownF, hasSl3, hasSl1, SO.hasSl, List.all_map, flatSV, SV.cells, Function.comp_def]; done)); (all_goals (intro h)); (all_goals (try (exfalso; simp_all; done))))) | ((with_reducible refine eO ?_); first | refine ev_bd rfl ?_ | (refine ev_bdB rfl ?_ ?_ <;> intro h <;> try (exfalso; simp_all; done)) | refine ev_bd0 rfl ?_) | ((with_reducible refine eD ?_); first | refine ev_bd rfl ?_ | refine ev_bd0 rfl ?_ | ((with_reducible refine ev_pickB ?_ ?_) <;> intro h)) | refine ev_ret rfl ?_)
  all_goals (refine ⟨congrArg (fun b => SV.v (Value.bool b)) ?_, rfl⟩; first | (simp_all [rootOk]; done) | (simp_all [rootOk]; omega) | (simp [rootOk] at *; omega) | (simp [rootOk]; omega) | grind [rootOk] | trace_state)
theorem s_luInts_L (a b : List Int) (hl : a.length = b.length) (h47 : a.length ≤ 140737488355328) : ∀ i, i ≤ a.length → (∀ j, j < i → nth a j = nth b j) → ∀ (k : Int) (c : Nat), k = i →
    Ev (fun n => L31_4 (callF prg n) (n + 1) 0 (n + 1 - c) (.sl 1 (a.map iI)) (.sl 1 (b.map iI)) (iI k) []) (Is (bB (decide (a = b))) []) := by
  refine up_ind ?_
  intro i hi ih hp k c hk
  subst hk
  (refine UL31_4 ?_; unfold LB31_4)
  repeat' (first | ((with_reducible refine eB ?_); first | ((with_reducible first | refine ev_lss ?_ ?_ | refine ev_neq ?_ ?_) <;> intro h <;> try (exfalso; omega)) | ((with_reducible refine ev_add ?_ ?_); · omega) | refine ev_bd rfl ?_ | refine ev_bd0 rfl ?_) | ((with_reducible refine eL ?_); first | ((with_reducible refine ev_lenm ?_ ?_); · rfl) | refine ev_lenom rfl rfl ?_ | refine ev_lenoc rfl rfl rfl ?_ | refine ev_lenc rfl rfl ?_ | refine ev_leno rfl rfl ?_ | refine ev_slen rfl ?_ | refine ev_bd rfl ?_ | refine ev_bd0 rfl ?_) | ((with_reducible refine eI ?_); first | ((with_reducible refine ev_idx ?_ ?_ ?_); (· rfl); · omega) | (refine ev_idxo rfl rfl ?_ ?_; (· first | omega | (simp only [List.length_cons, List.length_nil, List.length_map, List.length_append]; omega))) | refine ev_bd rfl ?_ | refine ev_bd0 rfl ?_) | ((with_reducible refine eK ?_); first | (with_reducible first | refine ev_ct ?_ | refine ev_cf ?_) | ((with_reducible refine ev_cond ?_ ?_) <;> intro h)) | ((with_reducible refine eO ?_); first | refine ev_bd rfl ?_ | (refine ev_bdB rfl ?_ ?_ <;> intro h <;> try (exfalso; simp_all; done)) | refine ev_bd0 rfl ?_) | ((with_reducible refine eD ?_); first | refine ev_bd rfl ?_ | refine ev_bd0 rfl ?_) | ((with_reducible refine ih ?_ (all_step hp ?_) _ _ ?_) <;> (first | omega | assumption | (simp only [*, List.map_append, List.length_append, List.length_cons, List.length_nil, List.map_cons, List.map_nil]; done) | (simp_all; done) | (simp_all; omega))) | refine ev_ret rfl ?_)
  · refine ⟨congrArg bB (Eq.symm (decide_eq_false fun e => ?_)), rfl⟩
    subst e; simp_all
  · exact ⟨congrArg bB (Eq.symm (decide_eq_true (eq_of_nth hl fun j hj => hp j (by omega)))), rfl⟩
theorem s_luInts (a b : List Int) (h47 : a.length ≤ 140737488355328) : Ex (fun m => callF prg m 31 [.sl 1 (a.map iI), .sl 1 (b.map iI)] []) (bB (decide (a = b))) [] := by
  refine ev_is.1 ?_
  (refine U31 (nl := 0) rfl ?_; unfold B31)
  repeat' (first | ((with_reducible refine eB ?_); first | ((with_reducible refine ev_neq ?_ ?_) <;> intro h <;> try (exfalso; omega)) | refine ev_bd rfl ?_ | refine ev_bd0 rfl ?_) | ((with_reducible refine eL ?_); first | ((with_reducible refine ev_lenm ?_ ?_); · rfl) | refine ev_lenom rfl rfl ?_ | refine ev_lenoc rfl rfl rfl ?_ | refine ev_lenc rfl rfl ?_ | refine ev_leno rfl rfl ?_ | refine ev_slen rfl ?_ | refine ev_bd rfl ?_ | refine ev_bd0 rfl ?_) | ((with_reducible refine eK ?_); first | (with_reducible first | refine ev_ct ?_ | refine ev_cf ?_) | ((with_reducible refine ev_cond ?_ ?_) <;> intro h)) | ((with_reducible refine eD ?_); first | refine ev_bd rfl ?_ | refine ev_bd0 rfl ?_) | ( exact s_luInts_L a b (by omega) h47 0 (by omega) (fun j hj => by omega) 0 0 rfl) | refine ev_ret rfl ?_)
  refine ⟨congrArg bB (Eq.symm (decide_eq_false fun e => ?_)), rfl⟩
  subst e; simp_all
theorem s_luRoot (num : Int) (keys : List Int) (need : Int) (num' : Int) (keys' : List Int) (need' : Int) (h47 : keys.length ≤ 140737488355328) :
    Ex (fun m => callF prg m 9 [.ag [iI num, .sl 1 (keys.map iI), iI need], .ag [iI num', .sl 1 (keys'.map iI), iI need']] []) (bB (decide (num = num' ∧ need = need' ∧ keys = keys'))) [] := by
  refine ev_is.1 ?_
  (refine U9 (nl := 0) rfl ?_; unfold B9)
  repeat' (first | ((with_reducible refine eG ?_); first | (with_reducible first | refine ev_gtt ?_ | refine ev_gff ?_ | refine ev_gtf ?_ | refine ev_gft ?_ | refine ev_gu ?_) | refine ev_bd rfl ?_ | refine ev_bd0 rfl ?_ | ((with_reducible refine ev_gB ?_ ?_) <;> intro h)) | ((with_reducible refine eB ?_); first | ((with_reducible refine ev_eql ?_ ?_) <;> intro h <;> try (exfalso; omega)) | refine ev_bd rfl ?_ | refine ev_bd0 rfl ?_) | ((with_reducible refine eC ?_); first | ((refine ev_callD (s_luInts _ _ h47) rfl rfl ?_ rfl rfl ?_ ?_); (focus first | exact .inl rfl | exact .inr rfl | (refine .inr ?_; simp [flagC, ownF, hasSl3, hasSl1, SO.hasSl, List.all_map, flatSV, SV.cells, Function.comp_def]; done)); (all_goals (intro h)); (all_goals (try (exfalso; first | omega | exact h rfl | exact h ⟨rfl, rfl, rfl⟩))))) | ((with_reducible refine eO ?_); first | refine ev_bd rfl ?_ | (refine ev_bdB rfl ?_ ?_ <;> intro h <;> try (exfalso; simp_all; done)) | refine ev_bd0 rfl ?_) | ((with_reducible refine eD ?_); first | refine ev_bd rfl ?_ | refine ev_bd0 rfl ?_ | ((with_reducible refine ev_pickB ?_ ?_) <;> intro h)) | refine ev_ret rfl ?_)
  all_goals (refine ⟨congrArg (fun b => SV.v (Value.bool b)) ?_, rfl⟩; first | (simp_all []; done) | (simp_all []; omega) | (simp [] at *; omega) | (simp []; omega) | grind [] | trace_state)
theorem s_luMetas_L (a b : List TMeta) (hl : a.length = b.length) (h47 : a.length ≤ 140737488355328) : ∀ i, i ≤ a.length → (∀ j, j < i → nth a j = nth b j) → ∀ (k : Int) (c : Nat), k = i →
    Ev (fun n => L49_4 (callF prg n) (n + 1) 0 (n + 1 - c) (.sl 3 (a.map eMeta)) (.sl 3 (b.map eMeta)) (iI k) []) (Is (bB (decide (a = b))) []) := by
  refine up_ind ?_
  intro i hi ih hp k c hk
  subst hk
  (refine UL49_4 ?_; unfold LB49_4)
  repeat' (first | ((with_reducible refine eB ?_); first | ((with_reducible first | refine ev_lss ?_ ?_ | refine ev_neq ?_ ?_) <;> intro h <;> try (exfalso; omega)) | ((with_reducible refine ev_add ?_ ?_); · omega) | ((with_reducible first | refine ev_eql3 ?_ ?_ ?_ | refine ev_neq3 ?_ ?_ ?_ | refine ev_eql2 ?_ ?_ ?_ | refine ev_neq2 ?_ ?_ ?_); (· rfl); all_goals intro h) | refine ev_bd rfl ?_ | refine ev_bd0 rfl ?_) | ((with_reducible refine eL ?_); first | ((with_reducible refine ev_lenm ?_ ?_); · rfl) | refine ev_lenom rfl rfl ?_ | refine ev_lenoc rfl rfl rfl ?_ | refine ev_lenc rfl rfl ?_ | refine ev_leno rfl rfl ?_ | refine ev_slen rfl ?_ | refine ev_bd rfl ?_ | refine ev_bd0 rfl ?_) | ((with_reducible refine eI ?_); first | ((with_reducible refine ev_idx ?_ ?_ ?_); (· rfl); · omega) | (refine ev_idxo rfl rfl ?_ ?_; (· first | omega | (simp only [List.length_cons, List.length_nil, List.length_map, List.length_append]; omega))) | refine ev_bd rfl ?_ | refine ev_bd0 rfl ?_) | ((with_reducible refine eK ?_); first | (with_reducible first | refine ev_ct ?_ | refine ev_cf ?_) | ((with_reducible refine ev_cond ?_ ?_) <;> intro h)) | ((with_reducible refine eO ?_); first | refine ev_bd rfl ?_ | (refine ev_bdB rfl ?_ ?_ <;> intro h <;> try (exfalso; simp_all; done)) | refine ev_bd0 rfl ?_) | ((with_reducible refine eD ?_); first | refine ev_bd rfl ?_ | refine ev_bd0 rfl ?_) | ((with_reducible refine ih ?_ (all_step hp ?_) _ _ ?_) <;> (first | omega | assumption | ((exact TMeta.eq3 (by simpa using h))) | (simp only [*, List.map_append, List.length_append, List.length_cons, List.length_nil, List.map_cons, List.map_nil]; done) | (simp_all; done) | (simp_all; omega))) | refine ev_ret rfl ?_)
  · refine ⟨congrArg bB (Eq.symm (decide_eq_false fun e => ?_)), rfl⟩
    subst e; simp_all
  · exact ⟨congrArg bB (Eq.symm (decide_eq_true (eq_of_nth hl fun j hj => hp j (by omega)))), rfl⟩
theorem s_luMetas (a b : List TMeta) (h47 : a.length ≤ 140737488355328) : Ex (fun m => callF prg m 49 [.sl 3 (a.map eMeta), .sl 3 (b.map eMeta)] []) (bB (decide (a = b))) [] := by
  refine ev_is.1 ?_
  (refine U49 (nl := 0) rfl ?_; unfold B49)
  repeat' (first | ((with_reducible refine eB ?_); first | ((with_reducible refine ev_neq ?_ ?_) <;> intro h <;> try (exfalso; omega)) | refine ev_bd rfl ?_ | refine ev_bd0 rfl ?_) | ((with_reducible refine eL ?_); first | ((with_reducible refine ev_lenm ?_ ?_); · rfl) | refine ev_lenom rfl rfl ?_ | refine ev_lenoc rfl rfl rfl ?_ | refine ev_lenc rfl rfl ?_ | refine ev_leno rfl rfl ?_ | refine ev_slen rfl ?_ | refine ev_bd rfl ?_ | refine ev_bd0 rfl ?_) | ((with_reducible refine eK ?_); first | (with_reducible first | refine ev_ct ?_ | refine ev_cf ?_) | ((with_reducible refine ev_cond ?_ ?_) <;> intro h)) | ((with_reducible refine eD ?_); first | refine ev_bd rfl ?_ | refine ev_bd0 rfl ?_) | ( exact s_luMetas_L a b (by omega) h47 0 (by omega) (fun j hj => by omega) 0 0 rfl) | refine ev_ret rfl ?_)
  refine ⟨congrArg bB (Eq.symm (decide_eq_false fun e => ?_)), rfl⟩
  subst e; simp_all
theorem s_EqMeta_L (a b : List TMeta) (hl : a.length = b.length) (h47 : a.length ≤ 140737488355328) : ∀ i, i ≤ a.length → (∀ j, j < i → nth a j = nth b j) → ∀ (k : Int) (c : Nat), k = i →
    Ev (fun n => L73_4 (callF prg n) (n + 1) 0 (n + 1 - c) (.sl 3 (a.map eMeta)) (.sl 3 (b.map eMeta)) (iI a.length) (iI k) []) (Is (bB (decide (a = b))) []) := by
  refine up_ind ?_
  intro i hi ih hp k c hk
  subst hk
  (refine UL73_4 ?_; unfold LB73_4)
  repeat' (first | ((with_reducible refine eB ?_); first | ((with_reducible first | refine ev_lss ?_ ?_ | refine ev_neq ?_ ?_) <;> intro h <;> try (exfalso; omega)) | ((with_reducible refine ev_add ?_ ?_); · omega) | ((with_reducible first | refine ev_eql3 ?_ ?_ ?_ | refine ev_neq3 ?_ ?_ ?_ | refine ev_eql2 ?_ ?_ ?_ | refine ev_neq2 ?_ ?_ ?_); (· rfl); all_goals intro h) | refine ev_bd rfl ?_ | refine ev_bd0 rfl ?_) | ((with_reducible refine eI ?_); first | ((with_reducible refine ev_idx ?_ ?_ ?_); (· rfl); · omega) | (refine ev_idxo rfl rfl ?_ ?_; (· first | omega | (simp only [List.length_cons, List.length_nil, List.length_map, List.length_append]; omega))) | refine ev_bd rfl ?_ | refine ev_bd0 rfl ?_) | ((with_reducible refine eK ?_); first | (with_reducible first | refine ev_ct ?_ | refine ev_cf ?_) | ((with_reducible refine ev_cond ?_ ?_) <;> intro h)) | ((with_reducible refine eO ?_); first | refine ev_bd rfl ?_ | (refine ev_bdB rfl ?_ ?_ <;> intro h <;> try (exfalso; simp_all; done)) | refine ev_bd0 rfl ?_) | ((with_reducible refine eD ?_); first | refine ev_bd rfl ?_ | refine ev_bd0 rfl ?_) | ((with_reducible refine ih ?_ (all_step hp ?_) _ _ ?_) <;> (first | omega | assumption | ((exact TMeta.eq3 (by simpa using h))) | (simp only [*, List.map_append, List.length_append, List.length_cons, List.length_nil, List.map_cons, List.map_nil]; done) | (simp_all; done) | (simp_all; omega))) | refine ev_ret rfl ?_)
  · refine ⟨congrArg bB (Eq.symm (decide_eq_false fun e => ?_)), rfl⟩
    subst e; simp_all
  · exact ⟨congrArg bB (Eq.symm (decide_eq_true (eq_of_nth hl fun j hj => hp j (by omega)))), rfl⟩
theorem s_EqMeta (a b : List TMeta) (h47 : a.length ≤ 140737488355328) : Ex (fun m => callF prg m 73 [.sl 3 (a.map eMeta), .sl 3 (b.map eMeta)] []) (bB (decide (a = b))) [] := by
  refine ev_is.1 ?_
  (refine U73 (nl := 0) rfl ?_; unfold B73)
  repeat' (first | ((with_reducible refine eB ?_); first | ((with_reducible refine ev_neq ?_ ?_) <;> intro h <;> try (exfalso; omega)) | refine ev_bd rfl ?_ | refine ev_bd0 rfl ?_) | ((with_reducible refine eL ?_); first | ((with_reducible refine ev_lenm ?_ ?_); · rfl) | refine ev_lenom rfl rfl ?_ | refine ev_lenoc rfl rfl rfl ?_ | refine ev_lenc rfl rfl ?_ | refine ev_leno rfl rfl ?_ | refine ev_slen rfl ?_ | refine ev_bd rfl ?_ | refine ev_bd0 rfl ?_) | ((with_reducible refine eK ?_); first | (with_reducible first | refine ev_ct ?_ | refine ev_cf ?_) | ((with_reducible refine ev_cond ?_ ?_) <;> intro h)) | ((with_reducible refine eD ?_); first | refine ev_bd rfl ?_ | refine ev_bd0 rfl ?_) | ( exact s_EqMeta_L a b (by omega) h47 0 (by omega) (fun j hj => by omega) 0 0 rfl) | refine ev_ret rfl ?_)
  refine ⟨congrArg bB (Eq.symm (decide_eq_false fun e => ?_)), rfl⟩
  subst e; simp_all
theorem s_luIndex (num til : Int) (ms : List TMeta) (num' til' : Int) (ms' : List TMeta) (h47 : ms.length ≤ 140737488355328) :
    Ex (fun m => callF prg m 32 [.ag [iI num, iI til, .sl 3 (ms.map eMeta)], .ag [iI num', iI til', .sl 3 (ms'.map eMeta)]] []) (bB (decide (num = num' ∧ til = til' ∧ ms = ms'))) [] := by
  refine ev_is.1 ?_
  (refine U32 (nl := 0) rfl ?_; unfold B32)
  repeat' (first | ((with_reducible refine eG ?_); first | (with_reducible first | refine ev_gtt ?_ | refine ev_gff ?_ | refine ev_gtf ?_ | refine ev_gft ?_ | refine ev_gu ?_) | refine ev_bd rfl ?_ | refine ev_bd0 rfl ?_ | ((with_reducible refine ev_gB ?_ ?_) <;> intro h)) | ((with_reducible refine eB ?_); first | ((with_reducible refine ev_eql ?_ ?_) <;> intro h <;> try (exfalso; omega)) | refine ev_bd rfl ?_ | refine ev_bd0 rfl ?_) | ((with_reducible refine eC ?_); first | ((refine ev_callD (s_luMetas _ _ h47) rfl rfl ?_ rfl rfl ?_ ?_); (focus first | exact .inl rfl | exact .inr rfl | (refine .inr ?_; simp [flagC, ownF, hasSl3, hasSl1, SO.hasSl, List.all_map, flatSV, SV.cells, Function.comp_def]; done)); (all_goals (intro h)); (all_goals (try (exfalso; first | omega | exact h rfl | exact h ⟨rfl, rfl, rfl⟩))))) | ((with_reducible refine eO ?_); first | refine ev_bd rfl ?_ | (refine ev_bdB rfl ?_ ?_ <;> intro h <;> try (exfalso; simp_all; done)) | refine ev_bd0 rfl ?_) | ((with_reducible refine eD ?_); first | refine ev_bd rfl ?_ | refine ev_bd0 rfl ?_ | ((with_reducible refine ev_pickB ?_ ?_) <;> intro h)) | refine ev_ret rfl ?_)
  all_goals (refine ⟨congrArg (fun b => SV.v (Value.bool b)) ?_, rfl⟩; first | (simp_all []; done) | (simp_all []; omega) | (simp [] at *; omega) | (simp []; omega) | grind [] | trace_state)
theorem s_sameIndex (num til : Int) (ms : List TMeta) (num' til' : Int) (ms' : List TMeta) (h47 : ms.length ≤ 140737488355328) :
    Ex (fun m => callF prg m 54 [.ag [iI num, iI til, .sl 3 (ms.map eMeta)], .ag [iI num', iI til', .sl 3 (ms'.map eMeta)]] []) (bB (decide (num = num' ∧ til = til' ∧ ms = ms'))) [] := by
  refine ev_is.1 ?_
  (refine U54 (nl := 0) rfl ?_; unfold B54)
  repeat' (first | ((with_reducible refine eG ?_); first | (with_reducible first | refine ev_gtt ?_ | refine ev_gff ?_ | refine ev_gtf ?_ | refine ev_gft ?_ | refine ev_gu ?_) | refine ev_bd rfl ?_ | refine ev_bd0 rfl ?_ | ((with_reducible refine ev_gB ?_ ?_) <;> intro h)) | ((with_reducible refine eB ?_); first | ((with_reducible refine ev_eql ?_ ?_) <;> intro h <;> try (exfalso; omega)) | refine ev_bd rfl ?_ | refine ev_bd0 rfl ?_) | ((with_reducible refine eC ?_); first | ((refine ev_callD (s_EqMeta _ _ h47) rfl rfl ?_ rfl rfl ?_ ?_); (focus first | exact .inl rfl | exact .inr rfl | (refine .inr ?_; simp [flagC, ownF, hasSl3, hasSl1, SO.hasSl, List.all_map, flatSV, SV.cells, Function.comp_def]; done)); (all_goals (intro h)); (all_goals (try (exfalso; first | omega | exact h rfl | exact h ⟨rfl, rfl, rfl⟩))))) | ((with_reducible refine eO ?_); first | refine ev_bd rfl ?_ | (refine ev_bdB rfl ?_ ?_ <;> intro h <;> try (exfalso; simp_all; done)) | refine ev_bd0 rfl ?_) | ((with_reducible refine eD ?_); first | refine ev_bd rfl ?_ | refine ev_bd0 rfl ?_ | ((with_reducible refine ev_pickB ?_ ?_) <;> intro h)) | refine ev_ret rfl ?_)
  all_goals (refine ⟨congrArg (fun b => SV.v (Value.bool b)) ?_, rfl⟩; first | (simp_all []; done) | (simp_all []; omega) | (simp [] at *; omega) | (simp []; omega) | grind [] | trace_state)
theorem s_luTrust (t t' : TTrust) (h1 : t.root.keys.length ≤ 140737488355328) (h2 : t.index.metas.length ≤ 140737488355328) :
    Ex (fun m => callF prg m 33 [.ag [iI t.root.num, .sl 1 (t.root.keys.map iI), iI t.root.need, bB t.has, iI t.index.num, iI t.index.til, .sl 3 (t.index.metas.map eMeta)],
      .ag [iI t'.root.num, .sl 1 (t'.root.keys.map iI), iI t'.root.need, bB t'.has, iI t'.index.num, iI t'.index.til, .sl 3 (t'.index.metas.map eMeta)]] []) (bB (decide (t = t'))) [] := by
  refine ev_is.1 ?_
  obtain ⟨⟨num, keys, need⟩, has, ⟨xn, xt, ms⟩⟩ := t
  obtain ⟨⟨num', keys', need'⟩, has', ⟨xn', xt', ms'⟩⟩ := t'
  (refine U33 (nl := 0) rfl ?_; unfold B33)
  cases has <;> cases has'
  all_goals repeat' (first | ((with_reducible refine eG ?_); first | (with_reducible first | refine ev_gtt ?_ | refine ev_gff ?_ | refine ev_gtf ?_ | refine ev_gft ?_ | refine ev_gu ?_) | refine ev_bd rfl ?_ | refine ev_bd0 rfl ?_ | ((with_reducible refine ev_gB ?_ ?_) <;> intro h)) | ((with_reducible refine eB ?_); first | ((with_reducible refine ev_eql ?_ ?_) <;> intro h <;> try (exfalso; omega)) | refine ev_bd rfl ?_ | refine ev_bd0 rfl ?_) | ((with_reducible refine eC ?_); first | ((refine ev_callD (s_luRoot _ _ _ _ _ _ h1) rfl rfl ?_ rfl rfl ?_ ?_); (focus first | exact .inl rfl | exact .inr rfl | (refine .inr ?_; simp [flagC, ownF, hasSl3, hasSl1, SO.hasSl, List.all_map, flatSV, SV.cells, Function.comp_def]; done)); (all_goals (intro h)); (all_goals (try (exfalso; first | omega | exact h rfl | exact h ⟨rfl, rfl, rfl⟩)))) | ((refine ev_callD (s_luIndex _ _ _ _ _ _ h2) rfl rfl ?_ rfl rfl ?_ ?_); (focus first | exact .inl rfl | exact .inr rfl | (refine .inr ?_; simp [flagC, ownF, hasSl3, hasSl1, SO.hasSl, List.all_map, flatSV, SV.cells, Function.comp_def]; done)); (all_goals (intro h)); (all_goals (try (exfalso; first | omega | exact h rfl | exact h ⟨rfl, rfl, rfl⟩))))) | ((with_reducible refine eO ?_); first | refine ev_bd rfl ?_ | (refine ev_bdB rfl ?_ ?_ <;> intro h <;> try (exfalso; simp_all; done)) | refine ev_bd0 rfl ?_) | ((with_reducible refine eD ?_); first | refine ev_bd rfl ?_ | refine ev_bd0 rfl ?_ | ((with_reducible refine ev_pickB ?_ ?_) <;> intro h)) | refine ev_ret rfl ?_)
  all_goals (refine ⟨congrArg (fun b => SV.v (Value.bool b)) ?_, rfl⟩; first | (simp_all []; done) | (simp_all []; omega) | (simp [] at *; omega) | (simp []; omega) | grind [] | trace_state)
def mless (a b : TMeta) : Prop := a.name < b.name ∨ a.name = b.name ∧ a.ver < b.ver
instance (a b : TMeta) : Decidable (mless a b) := by unfold mless; exact inferInstance
def metaAt (l : List TMeta) (i : Nat) : Prop := (1 ≤ (nth l i).name ∧ (nth l i).name ≤ 4) ∧ (1 ≤ (nth l i).ver ∧ (nth l i).ver ≤ 5) ∧ (0 ≤ (nth l i).sum ∧ (nth l i).sum ≤ 9972) ∧ (0 < i → mless (nth l (i - 1)) (nth l i))
instance (l : List TMeta) (i : Nat) : Decidable (metaAt l i) := by unfold metaAt; exact inferInstance
def metasOk (l : List TMeta) : Bool := decide (∀ i, i < l.length → metaAt l i)
def indexOk (num til : Int) (ms : List TMeta) : Bool := decide (1 ≤ num ∧ num ≤ 30) && decide (0 ≤ til ∧ til ≤ 60) && decide (ms.length ≤ 8) && metasOk ms
theorem s_IndexOkI_L (num til : Int) (ms : List TMeta) (h47 : ms.length ≤ 140737488355328) : ∀ i, i ≤ ms.length → (∀ j, j < i → metaAt ms j) → ∀ (k : Int) (c : Nat), k = i →
    Ev (fun n => G51_2 (callF prg n) (n + 1) 0 (n + 1 - c) [.ptr 0 0, .sl 3 (ms.map eMeta), iI ms.length, iI k] [.box [iI num, iI til, .sl 3 (ms.map eMeta)]]) (Is (bB (indexOk num til ms)) []) := by
  refine up_ind ?_
  intro i hi ih hp k c hk
  subst hk
  (refine UG51_2 _ ?_; unfold GB51_2)
  repeat' (first | ((with_reducible refine eG ?_); first | (with_reducible first | refine ev_gtt ?_ | refine ev_gff ?_ | refine ev_gtf ?_ | refine ev_gft ?_ | refine ev_gu ?_) | refine ev_bd rfl ?_ | refine ev_bd0 rfl ?_ | ((with_reducible refine ev_gB ?_ ?_) <;> intro h)) | ((with_reducible refine eB ?_); first | ((with_reducible first | refine ev_lss ?_ ?_ | refine ev_leq ?_ ?_ | refine ev_gtr ?_ ?_ | refine ev_eql ?_ ?_) <;> intro h <;> try (exfalso; omega)) | ((with_reducible first | refine ev_add ?_ ?_ | refine ev_sub ?_ ?_); · omega) | refine ev_bd rfl ?_ | refine ev_bd0 rfl ?_) | ((with_reducible refine eL ?_); first | ((with_reducible refine ev_lenm ?_ ?_); · rfl) | refine ev_lenom rfl rfl ?_ | refine ev_lenoc rfl rfl rfl ?_ | refine ev_lenc rfl rfl ?_ | refine ev_leno rfl rfl ?_ | refine ev_slen rfl ?_ | refine ev_bd rfl ?_ | refine ev_bd0 rfl ?_) | ((with_reducible refine eI ?_); first | ((with_reducible refine ev_idx ?_ ?_ ?_); (· rfl); · omega) | (refine ev_idxo rfl rfl ?_ ?_; (· first | omega | (simp only [List.length_cons, List.length_nil, List.length_map, List.length_append]; omega))) | refine ev_bd rfl ?_ | refine ev_bd0 rfl ?_) | ((with_reducible refine eC ?_); first | ((refine ev_callD (s_isName ..) rfl rfl ?_ rfl rfl ?_ ?_); (focus first | exact .inl rfl | exact .inr rfl | (refine .inr ?_; simp [flagC, ownF, hasSl3, hasSl1, SO.hasSl, List.all_map, flatSV, SV.cells, Function.comp_def]; done)); (all_goals (intro h)); (all_goals (try (exfalso; first | omega | exact h rfl | exact h ⟨rfl, rfl, rfl⟩)))) | ((refine ev_callD (s_isVer ..) rfl rfl ?_ rfl rfl ?_ ?_); (focus first | exact .inl rfl | exact .inr rfl | (refine .inr ?_; simp [flagC, ownF, hasSl3, hasSl1, SO.hasSl, List.all_map, flatSV, SV.cells, Function.comp_def]; done)); (all_goals (intro h)); (all_goals (try (exfalso; first | omega | exact h rfl | exact h ⟨rfl, rfl, rfl⟩)))) | ((refine ev_callD (s_in ..) rfl rfl ?_ rfl rfl ?_ ?_); (focus first | exact .inl rfl | exact .inr rfl | (refine .inr ?_; simp [flagC, ownF, hasSl3, hasSl1, SO.hasSl, List.all_map, flatSV, SV.cells, Function.comp_def]; done)); (all_goals (intro h)); (all_goals (try (exfalso; first | omega | exact h rfl | exact h ⟨rfl, rfl, rfl⟩))))) | ((with_reducible refine eK ?_); first | (with_reducible first | refine ev_ct ?_ | refine ev_cf ?_) | ((with_reducible refine ev_cond ?_ ?_) <;> intro h)) | ((with_reducible refine eO ?_); first | refine ev_bd rfl ?_ | (refine ev_bdB rfl ?_ ?_ <;> intro h <;> try (exfalso; simp_all; done)) | refine ev_bd0 rfl ?_) | ((with_reducible refine eD ?_); first | refine ev_bd rfl ?_ | refine ev_bd0 rfl ?_ | ((with_reducible refine ev_pickB ?_ ?_) <;> intro h)) | ((with_reducible refine eH ?_); first | refine ev_gcB rfl ?_) | (with_reducible first | refine UL51_2 ?_ | refine VL51_2 ?_) | ((with_reducible refine ih ?_ (all_step hp ?_) _ _ ?_) <;> (first | omega | assumption | ((unfold metaAt mless; (try simp only [Int.toNat_natCast, tn_sub1, tn_add1] at *); omega)) | (simp only [*, List.map_append, List.length_append, List.length_cons, List.length_nil, List.map_cons, List.map_nil]; done) | (simp_all; done) | (simp_all; omega))) | refine ev_ret rfl ?_)
  all_goals first
    | (have hm : metasOk ms = false := all_false (i := i) (by omega) (by unfold metaAt mless; (try simp only [Int.toNat_natCast, tn_sub1, tn_add1] at *); omega)
       exact ⟨congrArg bB (by simp [indexOk, hm]), rfl⟩)
    | (have hm : metasOk ms = true := all_true hp (by omega)
       exact ⟨congrArg bB (by simp [indexOk, hm, *] <;> omega), rfl⟩)
    | trace_state
theorem s_IndexOkI (num til : Int) (ms : List TMeta) (h47 : ms.length ≤ 140737488355328) : Ex (fun m => callF prg m 51 [.ag [iI num, iI til, .sl 3 (ms.map eMeta)]] []) (bB (indexOk num til ms)) [] := by
  refine ev_is.1 ?_
  (refine U51 (nl := 0) rfl ?_; unfold B51)
  repeat' (first | ((with_reducible refine eL ?_); first | ((with_reducible refine ev_lenm ?_ ?_); · rfl) | refine ev_lenom rfl rfl ?_ | refine ev_lenoc rfl rfl rfl ?_ | refine ev_lenc rfl rfl ?_ | refine ev_leno rfl rfl ?_ | refine ev_slen rfl ?_ | refine ev_bd rfl ?_ | refine ev_bd0 rfl ?_) | ((with_reducible refine eO ?_); first | refine ev_bd rfl ?_ | (refine ev_bdB rfl ?_ ?_ <;> intro h <;> try (exfalso; simp_all; done)) | refine ev_bd0 rfl ?_) | ((with_reducible refine eD ?_); first | refine ev_bd rfl ?_ | refine ev_bd0 rfl ?_) | ((with_reducible refine eH ?_); first | refine ev_gcB rfl ?_) | (with_reducible first | refine UL51_2 ?_ | refine VL51_2 ?_) | ( exact s_IndexOkI_L num til ms h47 0 (by omega) (fun j hj => by omega) 0 1 rfl) | refine ev_ret rfl ?_)
def trustOk (t : TTrust) : Bool := rootOk t.root.num t.root.keys t.root.need && (if t.has = true then indexOk t.index.num t.index.til t.index.metas else decide (t.index.num = 0 ∧ t.index.til = 0 ∧ t.index.metas = []))
abbrev aTrust (t : TTrust) : SV := .ag [iI t.root.num, .sl 1 (t.root.keys.map iI), iI t.root.need, bB t.has, iI t.index.num, iI t.index.til, .sl 3 (t.index.metas.map eMeta)]
abbrev rTrust (t : TTrust) : SV := .ag [iI t.root.num, .osl 0, iI t.root.need, bB t.has, iI t.index.num, iI t.index.til, .osl 1]
abbrev oTrust (t : TTrust) : List SO := [.arr false 1 (t.root.keys.map iI), .arr false 3 (t.index.metas.map eMeta)]
structure TLen (t : TTrust) : Prop where
  k : t.root.keys.length ≤ 2000000
  m : t.index.metas.length ≤ 2000000
theorem s_TrustOkI (t : TTrust) (h : TLen t) : Ex (fun m => callF prg m 39 [aTrust t] []) (bB (trustOk t)) [] := by
  refine ev_is.1 ?_
  obtain ⟨⟨num, keys, need⟩, has, ⟨xn, xt, ms⟩⟩ := t
  obtain ⟨h1, h2⟩ := h
  dsimp only [aTrust] at h1 h2 ⊢
  (refine U39 (nl := 0) rfl ?_; unfold B39)
  cases has
  all_goals repeat' (first | ((with_reducible refine eC ?_); first | ((refine ev_callB (s_RootOkI _ _ _ (by omega)) rfl rfl ?_ rfl rfl ?_ ?_); (focus first | exact .inl rfl | exact .inr rfl | (refine .inr ?_; simp [flagC, ownF, hasSl3, hasSl1, SO.hasSl, List.all_map, flatSV, SV.cells, Function.comp_def]; done)); (all_goals (intro h)); (all_goals (try (exfalso; simp_all; done)))) | ((refine ev_callB (s_IndexOkI _ _ _ (by omega)) rfl rfl ?_ rfl rfl ?_ ?_); (focus first | exact .inl rfl | exact .inr rfl | (refine .inr ?_; simp [flagC, ownF, hasSl3, hasSl1, SO.hasSl, List.all_map, flatSV, SV.cells, Function.comp_def]; done)); (all_goals (intro h)); (all_goals (try (exfalso; simp_all; done)))) | ((refine ev_callD (s_sameIndex _ _ _ _ _ [] (by omega)) rfl rfl ?_ rfl rfl ?_ ?_); (focus first | exact .inl rfl | exact .inr rfl | (refine .inr ?_; simp [flagC, ownF, hasSl3, hasSl1, SO.hasSl, List.all_map, flatSV, SV.cells, Function.comp_def]; done)); (all_goals (intro h)); (all_goals (try (exfalso; first | omega | exact h rfl | exact h ⟨rfl, rfl, rfl⟩))))) | ((with_reducible refine eK ?_); first | (with_reducible first | refine ev_ct ?_ | refine ev_cf ?_) | ((with_reducible refine ev_cond ?_ ?_) <;> intro h)) | ((with_reducible refine eO ?_); first | refine ev_bd rfl ?_ | (refine ev_bdB rfl ?_ ?_ <;> intro h <;> try (exfalso; simp_all; done)) | refine ev_bd0 rfl ?_) | ((with_reducible refine eD ?_); first | refine ev_bd rfl ?_ | refine ev_bd0 rfl ?_) | refine ev_ret rfl ?_)
  all_goals (refine ⟨congrArg (fun b => SV.v (Value.bool b)) ?_, rfl⟩; first | (simp_all [trustOk]; done) | (simp_all [trustOk]; omega) | (simp [trustOk] at *; omega) | (simp [trustOk]; omega) | grind [trustOk] | trace_state)
theorem s_CloneInt (l : List Int) (h47 : l.length ≤ 17592186044416) : Ex (fun m => callF prg m 28 [.sl 1 (l.map iI)] []) (.osl 0) [.arr false 1 (l.map iI)] := by
  refine ⟨1, fun n hn => ?_⟩
  obtain ⟨n, rfl⟩ : ∃ m, n = m + 1 := ⟨n - 1, by omega⟩
  show callF prg (n + 1) _ _ _ = _
  rw [E28]
  simp only [cloneS, List.length_map]
  rw [if_pos ⟨.inr trivial, by omega, by omega⟩]
theorem s_copiedRoot (num : Int) (keys : List Int) (need : Int) (h47 : keys.length ≤ 17592186044416) : Ex (fun m => callF prg m 27 [.ag [iI num, .sl 1 (keys.map iI), iI need]] []) (.ag [iI num, .osl 0, iI need]) [.arr false 1 (keys.map iI)] := by
  refine ev_is.1 ?_
  (refine U27 (nl := 0) rfl ?_; unfold B27)
  repeat' (first | ((with_reducible refine eC ?_); first | ((refine ev_call (s_CloneInt _ h47) rfl rfl ?_ rfl ?_); (focus first | exact .inl rfl | exact .inr rfl | (refine .inr ?_; simp [flagC, ownF, hasSl3, hasSl1, SO.hasSl, List.all_map, flatSV, SV.cells, Function.comp_def]; done)))) | ((with_reducible refine eO ?_); first | refine ev_bd rfl ?_ | (refine ev_bdB rfl ?_ ?_ <;> intro h <;> try (exfalso; simp_all; done)) | refine ev_bd0 rfl ?_) | ((with_reducible refine eD ?_); first | refine ev_bd rfl ?_ | refine ev_bd0 rfl ?_) | ((with_reducible refine ev_dchk ?_ ?_); · intro _; rfl) | refine ev_ret rfl ?_)
  exact ⟨rfl, rfl⟩
theorem s_l11RootCopy (num : Int) (keys : List Int) (need : Int) (h47 : keys.length ≤ 17592186044416) : Ex (fun m => callF prg m 21 [.ag [iI num, .sl 1 (keys.map iI), iI need]] []) (.ag [iI num, .osl 0, iI need]) [.arr false 1 (keys.map iI)] := by
  refine ev_is.1 ?_
  (refine U21 (nl := 0) rfl ?_; unfold B21)
  repeat' (first | ((with_reducible refine eA ?_); first | (refine ev_app rfl rfl rfl rfl rfl ?_ ?_; · first | decide | (simp only [List.length_append, List.length_cons, List.length_nil, List.length_map, List.length_take, List.length_drop]; omega))) | ((with_reducible refine eO ?_); first | refine ev_bd rfl ?_ | (refine ev_bdB rfl ?_ ?_ <;> intro h <;> try (exfalso; simp_all; done)) | refine ev_bd0 rfl ?_ | (refine ev_ldz rfl rfl rfl ?_ ?_ ?_; (· simp); (· first | omega | (simp only [List.length_cons, List.length_nil, List.length_map, List.length_append]; omega)); intro w)) | ((with_reducible refine eD ?_); first | refine ev_bd rfl ?_ | refine ev_bd0 rfl ?_) | refine ev_ret rfl ?_)
  exact ⟨rfl, rfl⟩
end Go.Proofs.Ytikennabfbkdhaa
