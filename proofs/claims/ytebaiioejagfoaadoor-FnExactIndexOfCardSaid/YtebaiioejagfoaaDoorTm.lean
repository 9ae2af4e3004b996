/- The evaluator S and what it says of functions: Sb, V1, V3, V6, Vd, Tc, Ta, Shb, Bw, V7, Tm. -/
import Derived.Test.YtebaiioejagfoaaDoorSb1
import Derived.Test.YtebaiioejagfoaaDoorProg
import Derived.KernelRfl
import Derived.Test.YtebaiioejagfoaaDoorTg
import Derived.Test.YtebaiioejagfoaaDoorTe
import Derived.Laws.Cover3
import Derived.Shelf.Strings.Builder1
import Derived.Shelf.Strings.BuilderF
import Derived.Shelf.Strings.BuilderK
import Derived.WalkKit
import Derived.Shelf.Spec.SlicesInsertGrow
/- The evaluator S: the functions of this seat, read chunk by chunk (2). -/
namespace Go.Proofs.YtebaiioejagfoaaDoor
open Go
set_option linter.unusedVariables false
set_option maxRecDepth 100000
end Go.Proofs.YtebaiioejagfoaaDoor

/- What the functions of the kit give: the range, the reader of a code. -/
namespace Go.Proofs.YtebaiioejagfoaaDoor
open Go
set_option linter.unusedVariables false
set_option linter.unusedSimpArgs false
theorem s_l6In (n lo hi : Int) : Ex (fun m => callF prg m 34 [iI n, iI lo, iI hi] []) (bB (decide (lo ≤ n ∧ n ≤ hi))) [] := by
  refine ev_is.1 (U34 (nl := 0) rfl ?_)
  unfold B34
  repeat' (first | ((with_reducible refine eG ?_); first | (with_reducible first | refine ev_gtt ?_ | refine ev_gff ?_ | refine ev_gtf ?_ | refine ev_gft ?_ | refine ev_gu ?_) | refine ev_bd rfl ?_ | refine ev_bd0 rfl ?_ | ((with_reducible refine ev_gB ?_ ?_) <;> intro h)) | ((with_reducible refine eB ?_); first | ((with_reducible first | refine ev_leq ?_ ?_ | refine ev_geq ?_ ?_) <;> intro h <;> try (exfalso; omega)) | refine ev_bd rfl ?_ | refine ev_bd0 rfl ?_) | ((with_reducible refine eD ?_); first | refine ev_bd rfl ?_ | refine ev_bd0 rfl ?_ | ((with_reducible refine ev_pickB ?_ ?_) <;> intro h)) | refine ev_ret rfl ?_)
  all_goals exact ⟨by simp <;> omega, rfl⟩
theorem s_in (n lo hi : Int) : Ex (fun m => callF prg m 43 [iI n, iI lo, iI hi] []) (bB (decide (lo ≤ n ∧ n ≤ hi))) [] := by
  refine ev_is.1 (U43 (nl := 0) rfl ?_)
  unfold B43
  repeat' (first | ((with_reducible refine eG ?_); first | (with_reducible first | refine ev_gtt ?_ | refine ev_gff ?_ | refine ev_gtf ?_ | refine ev_gft ?_ | refine ev_gu ?_) | refine ev_bd rfl ?_ | refine ev_bd0 rfl ?_ | ((with_reducible refine ev_gB ?_ ?_) <;> intro h)) | ((with_reducible refine eB ?_); first | ((with_reducible first | refine ev_leq ?_ ?_ | refine ev_geq ?_ ?_) <;> intro h <;> try (exfalso; omega)) | refine ev_bd rfl ?_ | refine ev_bd0 rfl ?_) | ((with_reducible refine eD ?_); first | refine ev_bd rfl ?_ | refine ev_bd0 rfl ?_ | ((with_reducible refine ev_pickB ?_ ?_) <;> intro h)) | refine ev_ret rfl ?_)
  all_goals exact ⟨by simp <;> omega, rfl⟩
theorem s_isName (n : Int) : Ex (fun m => callF prg m 41 [iI n] []) (bB (decide (1 ≤ n ∧ n ≤ 4))) [] := by
  refine ev_is.1 (U41 (nl := 0) rfl ?_)
  unfold B41
  repeat' (first | ((with_reducible refine eC ?_); first | ((refine ev_callD (s_in ..) rfl rfl ?_ rfl rfl ?_ ?_); (focus first | exact .inl rfl | exact .inr rfl | (refine .inr ?_; simp [flagC, ownF, hasSl3, hasSl1, SO.hasSl, List.all_map, flatSV, SV.cells, Function.comp_def]; done)); (all_goals (intro h)); (all_goals (try (exfalso; first | omega | exact h rfl | exact h ⟨rfl, rfl, rfl⟩))))) | ((with_reducible refine eD ?_); first | refine ev_bd rfl ?_ | refine ev_bd0 rfl ?_) | refine ev_ret rfl ?_)
  all_goals exact ⟨by simp <;> omega, rfl⟩
theorem s_isVer (n : Int) : Ex (fun m => callF prg m 42 [iI n] []) (bB (decide (1 ≤ n ∧ n ≤ 5))) [] := by
  refine ev_is.1 (U42 (nl := 0) rfl ?_)
  unfold B42
  repeat' (first | ((with_reducible refine eC ?_); first | ((refine ev_callD (s_in ..) rfl rfl ?_ rfl rfl ?_ ?_); (focus first | exact .inl rfl | exact .inr rfl | (refine .inr ?_; simp [flagC, ownF, hasSl3, hasSl1, SO.hasSl, List.all_map, flatSV, SV.cells, Function.comp_def]; done)); (all_goals (intro h)); (all_goals (try (exfalso; first | omega | exact h rfl | exact h ⟨rfl, rfl, rfl⟩))))) | ((with_reducible refine eD ?_); first | refine ev_bd rfl ?_ | refine ev_bd0 rfl ?_) | refine ev_ret rfl ?_)
  all_goals exact ⟨by simp <;> omega, rfl⟩
def QYes : SV → List SO → Prop := fun x _ => x = .v (.bool true)
structure RdOK (b : List Int) : Prop where
  by_ : ∀ i, 0 ≤ nth b i ∧ nth b i < 256
  len : b.length ≤ 2000
end Go.Proofs.YtebaiioejagfoaaDoor

/- Roots and indexes: what is ok, and what is the same. -/
namespace Go.Proofs.YtebaiioejagfoaaDoor
open Go
set_option linter.unusedVariables false
set_option linter.unusedSimpArgs false
set_option maxHeartbeats 4000000
structure TRoot where
  num : Int
  keys : List Int
  need : Int
  deriving Inhabited, DecidableEq
structure TMeta where
  name : Int
  ver : Int
  sum : Int
  deriving Inhabited, DecidableEq
structure TIndex where
  num : Int
  til : Int
  metas : List TMeta
  deriving Inhabited, DecidableEq
structure TTrust where
  root : TRoot
  has : Bool
  index : TIndex
  deriving Inhabited, DecidableEq
theorem TMeta.eq3 {m n : TMeta} (h : m.name = n.name ∧ m.ver = n.ver ∧ m.sum = n.sum) : m = n := by
  cases m; cases n; simp_all
abbrev eMeta (m : TMeta) : SV := .ag [iI m.name, iI m.ver, iI m.sum]
def keyAt (l : List Int) (i : Nat) : Prop := 1 ≤ nth l i ∧ nth l i ≤ 6 ∧ (0 < i → nth l (i - 1) < nth l i)
instance (l : List Int) (i : Nat) : Decidable (keyAt l i) := by unfold keyAt; exact inferInstance
def keysOk (l : List Int) : Bool := decide (∀ i, i < l.length → keyAt l i)
def rootOk (num : Int) (keys : List Int) (need : Int) : Bool := decide (1 ≤ num ∧ num ≤ 9) && keysOk keys && decide (1 ≤ need ∧ need ≤ keys.length)
def mless (a b : TMeta) : Prop := a.name < b.name ∨ a.name = b.name ∧ a.ver < b.ver
instance (a b : TMeta) : Decidable (mless a b) := by unfold mless; exact inferInstance
def metaAt (l : List TMeta) (i : Nat) : Prop := (1 ≤ (nth l i).name ∧ (nth l i).name ≤ 4) ∧ (1 ≤ (nth l i).ver ∧ (nth l i).ver ≤ 5) ∧ (0 ≤ (nth l i).sum ∧ (nth l i).sum ≤ 9972) ∧ (0 < i → mless (nth l (i - 1)) (nth l i))
instance (l : List TMeta) (i : Nat) : Decidable (metaAt l i) := by unfold metaAt; exact inferInstance
def metasOk (l : List TMeta) : Bool := decide (∀ i, i < l.length → metaAt l i)
def indexOk (num til : Int) (ms : List TMeta) : Bool := decide (1 ≤ num ∧ num ≤ 30) && decide (0 ≤ til ∧ til ≤ 60) && decide (ms.length ≤ 8) && metasOk ms
theorem s_l3Less (n v m w : Int) : Ex (fun k => callF prg k 31 [iI n, iI v, iI m, iI w] []) (bB (decide (n < m ∨ n = m ∧ v < w))) [] := by
  refine ev_is.1 ?_
  (refine U31 (nl := 0) rfl ?_; unfold B31)
  repeat' (first | ((with_reducible refine eG ?_); first | (with_reducible first | refine ev_gtt ?_ | refine ev_gff ?_ | refine ev_gtf ?_ | refine ev_gft ?_ | refine ev_gu ?_) | refine ev_bd rfl ?_ | refine ev_bd0 rfl ?_ | ((with_reducible refine ev_gB ?_ ?_) <;> intro h)) | ((with_reducible refine eB ?_); first | ((with_reducible first | refine ev_lss ?_ ?_ | refine ev_eql ?_ ?_) <;> intro h <;> try (exfalso; omega)) | refine ev_bd rfl ?_ | refine ev_bd0 rfl ?_) | ((with_reducible refine eD ?_); first | refine ev_bd rfl ?_ | refine ev_bd0 rfl ?_ | ((with_reducible refine ev_pickB ?_ ?_) <;> intro h)) | refine ev_ret rfl ?_)
  all_goals (refine ⟨congrArg (fun b => SV.v (Value.bool b)) ?_, rfl⟩; first | (simp_all []; done) | (simp_all []; omega) | (simp [] at *; omega) | (simp []; omega) | grind [] | trace_state)
theorem s_IndexOkS_L (num til : Int) (ms : List TMeta) (h47 : ms.length ≤ 140737488355328) : ∀ i, i ≤ ms.length → (∀ j, j < i → metaAt ms j) → ∀ (k : Int) (c : Nat), k = i →
    Ev (fun n => G17_4 (callF prg n) (n + 1) 0 (n + 1 - c) [.ptr 0 0, iI k] [.box [iI num, iI til, .sl 3 (ms.map eMeta)]]) (Is (bB (metasOk ms)) []) := by
  refine up_ind ?_
  intro i hi ih hp k c hk
  subst hk
  (refine UG17_4 _ ?_; unfold GB17_4)
  repeat' (first | ((with_reducible refine eG ?_); first | (with_reducible first | refine ev_gtt ?_ | refine ev_gff ?_ | refine ev_gtf ?_ | refine ev_gft ?_ | refine ev_gu ?_) | refine ev_bd rfl ?_ | refine ev_bd0 rfl ?_ | ((with_reducible refine ev_gB ?_ ?_) <;> intro h)) | ((with_reducible refine eB ?_); first | ((with_reducible first | refine ev_lss ?_ ?_ | refine ev_gtr ?_ ?_) <;> intro h <;> try (exfalso; omega)) | ((with_reducible first | refine ev_add ?_ ?_ | refine ev_sub ?_ ?_); · omega) | refine ev_bd rfl ?_ | refine ev_bd0 rfl ?_) | ((with_reducible refine eL ?_); first | ((with_reducible refine ev_lenm ?_ ?_); · rfl) | refine ev_lenom rfl rfl ?_ | refine ev_lenoc rfl rfl rfl ?_ | refine ev_lenc rfl rfl ?_ | refine ev_leno rfl rfl ?_ | refine ev_slen rfl ?_ | refine ev_bd rfl ?_ | refine ev_bd0 rfl ?_) | ((with_reducible refine eI ?_); first | ((with_reducible refine ev_idx ?_ ?_ ?_); (· rfl); · omega) | (refine ev_idxo rfl rfl ?_ ?_; (· first | omega | (simp only [List.length_cons, List.length_nil, List.length_map, List.length_append]; omega))) | refine ev_bd rfl ?_ | refine ev_bd0 rfl ?_) | ((with_reducible refine eC ?_); first | ((refine ev_callD (s_l6In ..) rfl rfl ?_ rfl rfl ?_ ?_); (focus first | exact .inl rfl | exact .inr rfl | (refine .inr ?_; simp [flagC, ownF, hasSl3, hasSl1, SO.hasSl, List.all_map, flatSV, SV.cells, Function.comp_def]; done)); (all_goals (intro h)); (all_goals (try (exfalso; first | omega | exact h rfl | exact h ⟨rfl, rfl, rfl⟩)))) | ((refine ev_callD (s_l3Less ..) rfl rfl ?_ rfl rfl ?_ ?_); (focus first | exact .inl rfl | exact .inr rfl | (refine .inr ?_; simp [flagC, ownF, hasSl3, hasSl1, SO.hasSl, List.all_map, flatSV, SV.cells, Function.comp_def]; done)); (all_goals (intro h)); (all_goals (try (exfalso; first | omega | exact h rfl | exact h ⟨rfl, rfl, rfl⟩))))) | ((with_reducible refine eK ?_); first | (with_reducible first | refine ev_ct ?_ | refine ev_cf ?_) | ((with_reducible refine ev_cond ?_ ?_) <;> intro h)) | ((with_reducible refine eO ?_); first | refine ev_bd rfl ?_ | (refine ev_bdB rfl ?_ ?_ <;> intro h <;> try (exfalso; simp_all; done)) | refine ev_bd0 rfl ?_) | ((with_reducible refine eD ?_); first | refine ev_bd rfl ?_ | refine ev_bd0 rfl ?_ | ((with_reducible refine ev_pickB ?_ ?_) <;> intro h)) | ((with_reducible refine eH ?_); first | refine ev_gcB rfl ?_) | (with_reducible first | refine UL17_4 ?_ | refine VL17_4 ?_) | ((with_reducible refine ih ?_ (all_step hp ?_) _ _ ?_) <;> (first | omega | assumption | ((unfold metaAt mless; (try simp only [Int.toNat_natCast, tn_sub1, tn_add1] at *); omega)) | (simp only [*, List.map_append, List.length_append, List.length_cons, List.length_nil, List.map_cons, List.map_nil]; done) | (simp_all; done) | (simp_all; omega))) | refine ev_ret rfl ?_)
  all_goals first | exact ⟨congrArg bB (Eq.symm (all_true hp (by omega))), rfl⟩ | exact ⟨congrArg bB (Eq.symm (all_false (i := i) (by omega) (by unfold metaAt mless; (try simp only [Int.toNat_natCast, tn_sub1, tn_add1] at *); omega))), rfl⟩ | trace_state
theorem s_IndexOkS (num til : Int) (ms : List TMeta) (h47 : ms.length ≤ 140737488355328) : Ex (fun m => callF prg m 17 [.ag [iI num, iI til, .sl 3 (ms.map eMeta)]] []) (bB (indexOk num til ms)) [] := by
  refine ev_is.1 ?_
  (refine U17 (nl := 0) rfl ?_; unfold B17)
  repeat' (first | ((with_reducible refine eG ?_); first | (with_reducible first | refine ev_gtt ?_ | refine ev_gff ?_ | refine ev_gtf ?_ | refine ev_gft ?_ | refine ev_gu ?_) | refine ev_bd rfl ?_ | refine ev_bd0 rfl ?_ | ((with_reducible refine ev_gB ?_ ?_) <;> intro h)) | ((with_reducible refine eB ?_); first | ((with_reducible refine ev_gtr ?_ ?_) <;> intro h <;> try (exfalso; omega)) | refine ev_bd rfl ?_ | refine ev_bd0 rfl ?_) | ((with_reducible refine eL ?_); first | ((with_reducible refine ev_lenm ?_ ?_); · rfl) | refine ev_lenom rfl rfl ?_ | refine ev_lenoc rfl rfl rfl ?_ | refine ev_lenc rfl rfl ?_ | refine ev_leno rfl rfl ?_ | refine ev_slen rfl ?_ | refine ev_bd rfl ?_ | refine ev_bd0 rfl ?_) | ((with_reducible refine eC ?_); first | ((refine ev_callD (s_l6In ..) rfl rfl ?_ rfl rfl ?_ ?_); (focus first | exact .inl rfl | exact .inr rfl | (refine .inr ?_; simp [flagC, ownF, hasSl3, hasSl1, SO.hasSl, List.all_map, flatSV, SV.cells, Function.comp_def]; done)); (all_goals (intro h)); (all_goals (try (exfalso; first | omega | exact h rfl | exact h ⟨rfl, rfl, rfl⟩))))) | ((with_reducible refine eK ?_); first | (with_reducible first | refine ev_ct ?_ | refine ev_cf ?_) | ((with_reducible refine ev_cond ?_ ?_) <;> intro h)) | ((with_reducible refine eO ?_); first | refine ev_bd rfl ?_ | (refine ev_bdB rfl ?_ ?_ <;> intro h <;> try (exfalso; simp_all; done)) | refine ev_bd0 rfl ?_) | ((with_reducible refine eD ?_); first | refine ev_bd rfl ?_ | refine ev_bd0 rfl ?_ | ((with_reducible refine ev_pickB ?_ ?_) <;> intro h)) | ((with_reducible refine eH ?_); first | refine ev_gcB rfl ?_) | (with_reducible first | refine UL17_4 ?_ | refine VL17_4 ?_) | ( ((have h8 : ms.length ≤ 8 := by omega); (rw [show indexOk num til ms = metasOk ms by simp [indexOk, *]]); exact s_IndexOkS_L num til ms h47 0 (by omega) (fun j hj => by omega) 0 1 rfl)) | refine ev_ret rfl ?_)
  all_goals (refine ⟨congrArg (fun b => SV.v (Value.bool b)) ?_, rfl⟩; first | (simp_all [indexOk]; done) | (simp_all [indexOk]; omega) | (simp [indexOk] at *; omega) | (simp [indexOk]; omega) | grind [indexOk] | trace_state)
theorem s_IndexOkI_L (num til : Int) (ms : List TMeta) (h47 : ms.length ≤ 140737488355328) : ∀ i, i ≤ ms.length → (∀ j, j < i → metaAt ms j) → ∀ (k : Int) (c : Nat), k = i →
    Ev (fun n => G21_2 (callF prg n) (n + 1) 0 (n + 1 - c) [.ptr 0 0, .sl 3 (ms.map eMeta), iI ms.length, iI k] [.box [iI num, iI til, .sl 3 (ms.map eMeta)]]) (Is (bB (indexOk num til ms)) []) := by
  refine up_ind ?_
  intro i hi ih hp k c hk
  subst hk
  (refine UG21_2 _ ?_; unfold GB21_2)
  repeat' (first | ((with_reducible refine eG ?_); first | (with_reducible first | refine ev_gtt ?_ | refine ev_gff ?_ | refine ev_gtf ?_ | refine ev_gft ?_ | refine ev_gu ?_) | refine ev_bd rfl ?_ | refine ev_bd0 rfl ?_ | ((with_reducible refine ev_gB ?_ ?_) <;> intro h)) | ((with_reducible refine eB ?_); first | ((with_reducible first | refine ev_lss ?_ ?_ | refine ev_leq ?_ ?_ | refine ev_gtr ?_ ?_ | refine ev_eql ?_ ?_) <;> intro h <;> try (exfalso; omega)) | ((with_reducible first | refine ev_add ?_ ?_ | refine ev_sub ?_ ?_); · omega) | refine ev_bd rfl ?_ | refine ev_bd0 rfl ?_) | ((with_reducible refine eL ?_); first | ((with_reducible refine ev_lenm ?_ ?_); · rfl) | refine ev_lenom rfl rfl ?_ | refine ev_lenoc rfl rfl rfl ?_ | refine ev_lenc rfl rfl ?_ | refine ev_leno rfl rfl ?_ | refine ev_slen rfl ?_ | refine ev_bd rfl ?_ | refine ev_bd0 rfl ?_) | ((with_reducible refine eI ?_); first | ((with_reducible refine ev_idx ?_ ?_ ?_); (· rfl); · omega) | (refine ev_idxo rfl rfl ?_ ?_; (· first | omega | (simp only [List.length_cons, List.length_nil, List.length_map, List.length_append]; omega))) | refine ev_bd rfl ?_ | refine ev_bd0 rfl ?_) | ((with_reducible refine eC ?_); first | ((refine ev_callD (s_isName ..) rfl rfl ?_ rfl rfl ?_ ?_); (focus first | exact .inl rfl | exact .inr rfl | (refine .inr ?_; simp [flagC, ownF, hasSl3, hasSl1, SO.hasSl, List.all_map, flatSV, SV.cells, Function.comp_def]; done)); (all_goals (intro h)); (all_goals (try (exfalso; first | omega | exact h rfl | exact h ⟨rfl, rfl, rfl⟩)))) | ((refine ev_callD (s_isVer ..) rfl rfl ?_ rfl rfl ?_ ?_); (focus first | exact .inl rfl | exact .inr rfl | (refine .inr ?_; simp [flagC, ownF, hasSl3, hasSl1, SO.hasSl, List.all_map, flatSV, SV.cells, Function.comp_def]; done)); (all_goals (intro h)); (all_goals (try (exfalso; first | omega | exact h rfl | exact h ⟨rfl, rfl, rfl⟩)))) | ((refine ev_callD (s_in ..) rfl rfl ?_ rfl rfl ?_ ?_); (focus first | exact .inl rfl | exact .inr rfl | (refine .inr ?_; simp [flagC, ownF, hasSl3, hasSl1, SO.hasSl, List.all_map, flatSV, SV.cells, Function.comp_def]; done)); (all_goals (intro h)); (all_goals (try (exfalso; first | omega | exact h rfl | exact h ⟨rfl, rfl, rfl⟩))))) | ((with_reducible refine eK ?_); first | (with_reducible first | refine ev_ct ?_ | refine ev_cf ?_) | ((with_reducible refine ev_cond ?_ ?_) <;> intro h)) | ((with_reducible refine eO ?_); first | refine ev_bd rfl ?_ | (refine ev_bdB rfl ?_ ?_ <;> intro h <;> try (exfalso; simp_all; done)) | refine ev_bd0 rfl ?_) | ((with_reducible refine eD ?_); first | refine ev_bd rfl ?_ | refine ev_bd0 rfl ?_ | ((with_reducible refine ev_pickB ?_ ?_) <;> intro h)) | ((with_reducible refine eH ?_); first | refine ev_gcB rfl ?_) | (with_reducible first | refine UL21_2 ?_ | refine VL21_2 ?_) | ((with_reducible refine ih ?_ (all_step hp ?_) _ _ ?_) <;> (first | omega | assumption | ((unfold metaAt mless; (try simp only [Int.toNat_natCast, tn_sub1, tn_add1] at *); omega)) | (simp only [*, List.map_append, List.length_append, List.length_cons, List.length_nil, List.map_cons, List.map_nil]; done) | (simp_all; done) | (simp_all; omega))) | refine ev_ret rfl ?_)
  all_goals first
    | (have hm : metasOk ms = false := all_false (i := i) (by omega) (by unfold metaAt mless; (try simp only [Int.toNat_natCast, tn_sub1, tn_add1] at *); omega)
       exact ⟨congrArg bB (by simp [indexOk, hm]), rfl⟩)
    | (have hm : metasOk ms = true := all_true hp (by omega)
       exact ⟨congrArg bB (by simp [indexOk, hm, *] <;> omega), rfl⟩)
    | trace_state
theorem s_IndexOkI (num til : Int) (ms : List TMeta) (h47 : ms.length ≤ 140737488355328) : Ex (fun m => callF prg m 21 [.ag [iI num, iI til, .sl 3 (ms.map eMeta)]] []) (bB (indexOk num til ms)) [] := by
  refine ev_is.1 ?_
  (refine U21 (nl := 0) rfl ?_; unfold B21)
  repeat' (first | ((with_reducible refine eL ?_); first | ((with_reducible refine ev_lenm ?_ ?_); · rfl) | refine ev_lenom rfl rfl ?_ | refine ev_lenoc rfl rfl rfl ?_ | refine ev_lenc rfl rfl ?_ | refine ev_leno rfl rfl ?_ | refine ev_slen rfl ?_ | refine ev_bd rfl ?_ | refine ev_bd0 rfl ?_) | ((with_reducible refine eO ?_); first | refine ev_bd rfl ?_ | (refine ev_bdB rfl ?_ ?_ <;> intro h <;> try (exfalso; simp_all; done)) | refine ev_bd0 rfl ?_) | ((with_reducible refine eD ?_); first | refine ev_bd rfl ?_ | refine ev_bd0 rfl ?_) | ((with_reducible refine eH ?_); first | refine ev_gcB rfl ?_) | (with_reducible first | refine UL21_2 ?_ | refine VL21_2 ?_) | ( exact s_IndexOkI_L num til ms h47 0 (by omega) (fun j hj => by omega) 0 1 rfl) | refine ev_ret rfl ?_)
def trustOk (t : TTrust) : Bool := rootOk t.root.num t.root.keys t.root.need && (if t.has = true then indexOk t.index.num t.index.til t.index.metas else decide (t.index.num = 0 ∧ t.index.til = 0 ∧ t.index.metas = []))
abbrev aTrust (t : TTrust) : SV := .ag [iI t.root.num, .sl 1 (t.root.keys.map iI), iI t.root.need, bB t.has, iI t.index.num, iI t.index.til, .sl 3 (t.index.metas.map eMeta)]
abbrev rTrust (t : TTrust) : SV := .ag [iI t.root.num, .osl 0, iI t.root.need, bB t.has, iI t.index.num, iI t.index.til, .osl 1]
abbrev oTrust (t : TTrust) : List SO := [.arr false 1 (t.root.keys.map iI), .arr false 3 (t.index.metas.map eMeta)]
structure TLen (t : TTrust) : Prop where
  k : t.root.keys.length ≤ 2000000
  m : t.index.metas.length ≤ 2000000
end Go.Proofs.YtebaiioejagfoaaDoor

/- Packages, as data; drawn packages. -/
namespace Go.Proofs.YtebaiioejagfoaaDoor
open Go
set_option linter.unusedVariables false
set_option linter.unusedSimpArgs false
set_option maxHeartbeats 4000000
structure TFile where
  path : Int
  data : Int
  deriving Inhabited, DecidableEq
structure TDep where
  name : Int
  least : Int
  deriving Inhabited, DecidableEq
structure TPkg where
  name : Int
  ver : Int
  files : List TFile
  deps : List TDep
  deriving Inhabited, DecidableEq
abbrev eFile (f : TFile) : SV := .ag [iI f.path, iI f.data]
abbrev eDep (d : TDep) : SV := .ag [iI d.name, iI d.least]
abbrev ePkg (p : TPkg) : SV := .ag [iI p.name, iI p.ver, .sl 2 (p.files.map eFile), .sl 2 (p.deps.map eDep)]
abbrev rPkg (p : TPkg) (j k : Nat) : SV := .ag [iI p.name, iI p.ver, .osl j, .osl k]
abbrev oPkg (p : TPkg) : List SO := [.arr false 2 (p.files.map eFile), .arr false 2 (p.deps.map eDep)]
def depsIn (D : List TDep) : Prop := ∀ d, d ∈ D → 1 ≤ d.name ∧ d.name ≤ 4
def pless (a b : TPkg) : Prop := a.name < b.name ∨ a.name = b.name ∧ a.ver < b.ver
instance (a b : TPkg) : Decidable (pless a b) := by unfold pless; exact inferInstance
def withP (s : List TPkg) (p : TPkg) : List TPkg := (s.filter fun x => decide (pless x p)) ++ [p] ++ (s.filter fun x => decide (pless p x))
def small (x : TPkg) : Prop := x.files.length ≤ 10 ∧ x.deps.length ≤ 10
def smalls (s : List TPkg) : Prop := ∀ x, x ∈ s → small x
def tames (s : List TPkg) : Prop := ∀ x, x ∈ s → (1 ≤ x.name ∧ x.name ≤ 4) ∧ depsIn x.deps
end Go.Proofs.YtebaiioejagfoaaDoor

/- Disks and steps, as data. -/
namespace Go.Proofs.YtebaiioejagfoaaDoor
open Go
set_option linter.unusedVariables false
structure TDisk where
  db : List TPkg
  files : List Int
  has : Bool
  jour : List TPkg
  deriving Inhabited, DecidableEq
structure TStep where
  kind : Int
  path : Int
  data : Int
  pkgs : List TPkg
  deriving Inhabited, DecidableEq
abbrev aDisk (d : TDisk) : SV := .ag [.sl 4 (d.db.map ePkg), .sl 1 (d.files.map iI), bB d.has, .sl 4 (d.jour.map ePkg)]
abbrev eStep (s : TStep) : SV := .ag [iI s.kind, iI s.path, iI s.data, .sl 4 (s.pkgs.map ePkg)]
def okInts (l : List Int) : Prop := l.length ≤ 9223372036854775807
def okPkg (p : TPkg) : Prop := p.files.length ≤ 9223372036854775807 ∧ p.deps.length ≤ 9223372036854775807
def okPkgs (l : List TPkg) : Prop := l.length ≤ 9223372036854775807 ∧ ∀ a, a ∈ l → okPkg a
def okRoot (r : TRoot) : Prop := r.keys.length ≤ 9223372036854775807
def okIndex (x : TIndex) : Prop := x.metas.length ≤ 9223372036854775807
def okTrust (t : TTrust) : Prop := okRoot t.root ∧ okIndex t.index
def okSigRoot (s : TRoot × List Int) : Prop := okRoot s.1 ∧ okInts s.2
def okSigIndex (s : TIndex × List Int) : Prop := okIndex s.1 ∧ okInts s.2
def okDisk (d : TDisk) : Prop := okPkgs d.db ∧ okInts d.files ∧ okPkgs d.jour
def okStep (s : TStep) : Prop := okPkgs s.pkgs
abbrev aSigRoot (s : TRoot × List Int) : SV := .ag [iI s.1.num, .sl 1 (s.1.keys.map iI), iI s.1.need, .sl 1 (s.2.map iI)]
abbrev aSigIndex (s : TIndex × List Int) : SV := .ag [iI s.1.num, iI s.1.til, .sl 3 (s.1.metas.map eMeta), .sl 1 (s.2.map iI)]
abbrev aRoot (r : TRoot) : SV := .ag [iI r.num, .sl 1 (r.keys.map iI), iI r.need]
abbrev aIndex (x : TIndex) : SV := .ag [iI x.num, iI x.til, .sl 3 (x.metas.map eMeta)]
end Go.Proofs.YtebaiioejagfoaaDoor

/- The evaluator S: slices.Clone, once for all types. -/
namespace Go.Proofs.YtebaiioejagfoaaDoor
open Go
set_option linter.unusedVariables false
set_option linter.unusedSimpArgs false
variable {P : Program} {T : Tab}
def cl0 (t : Nat) : Code := .region 0 #[{ dst := some 2, op := .assign (.const (.slice none 0 0)), type := t, pos := "slices.go:355", after := #[], guard := none }] false
def cl1 (t b : Nat) : Code := .region 1 #[{ dst := some 3, op := .move (.tmp 0), type := t, pos := "slices.go:357", after := #[], guard := none },
  { dst := some 4, op := .binOp .eql t (.tmp 3) (.const (.slice none 0 0)) t, type := b, pos := "slices.go:357", after := #[{ on := 0, ground := .data }], guard := none }] false
def cl2 (t : Nat) : Code := .region 2 #[{ dst := some 2, op := .assign (.const (.slice none 0 0)), type := t, pos := "slices.go:358", after := #[], guard := none }] false
def cl3 (t : Nat) : Code := .region 3 #[{ dst := some 5, op := .buildSlice t 0 #[], type := t, pos := "slices.go:362", after := #[], guard := none },
  { dst := some 6, op := .move (.tmp 0), type := t, pos := "slices.go:362", after := #[], guard := none },
  { dst := some 7, op := .call { callee := .builtin .append, args := #[.tmp 5, .tmp 6], argTypes := #[t, t] }, type := t, pos := "slices.go:362",
    after := #[{ on := 0, ground := .data }, { on := 1, ground := .data }], guard := none },
  { dst := some 2, op := .assign (.tmp 7), type := t, pos := "slices.go:362",
    after := #[{ on := 2, ground := .data }, { on := 2, ground := .chain }, { on := 0, ground := .phase }, { on := 1, ground := .phase }, { on := 2, ground := .phase }], guard := none }] false
def cloneC (t b : Nat) : Code := (cl0 t).seq (((cl1 t b).seq (.cond (.tmp 4) ((cl2 t).seq .ret) .skip)).seq ((cl3 t).seq .ret))
end Go.Proofs.YtebaiioejagfoaaDoor

/- The evaluator S: the tables of this seat are right (by the kernel). -/
namespace Go.Proofs.YtebaiioejagfoaaDoor
open Go
set_option maxRecDepth 100000
theorem tabR : TabOk Tryd.prog tab := tab_ok (by kernel_rfl) (by kernel_rfl) (by kernel_rfl)
def codesOk (P : Program) (fis : Nat → FnI) : Nat → List (Option Func) → Prop
  | _, [] => True
  | k, none :: l => codesOk P fis (k + 1) l
  | k, some fn :: l => (P.funcs[k]? = some fn ∧ (fn.name == "runtime.NumGoroutine") = false ∧ (fis k).nt ≤ fn.ntmps) ∧ codesOk P fis (k + 1) l
theorem codesOk_get {P : Program} {fis : Nat → FnI} : ∀ {l : List (Option Func)} {k : Nat}, codesOk P fis k l → ∀ (f : Nat) (fn : Func), l[f]? = some (some fn) → P.funcs[k + f]? = some fn ∧ (fn.name == "runtime.NumGoroutine") = false ∧ (fis (k + f)).nt ≤ fn.ntmps
  | [], _, _, f, fn, h => by simp at h
  | x :: l, k, hc, f, fn, h => by
    cases f with
    | zero =>
      simp at h; subst h
      exact hc.1
    | succ f =>
      have hl : codesOk P fis (k + 1) l := by
        cases x with
        | none => exact hc
        | some g => exact hc.2
      have := codesOk_get hl f fn (by simpa using h)
      rw [show k + (f + 1) = k + 1 + f by omega]; exact this
theorem cok3 : Tryd.prog.funcs[3]? = some Tryd.f3 ∧ (Tryd.f3.name == "runtime.NumGoroutine") = false ∧ (prg.fi 3).nt ≤ Tryd.f3.ntmps := ⟨Tryd.func3, by kernel_rfl, Nat.le_of_ble_eq_true (by kernel_rfl)⟩
theorem cok4 : Tryd.prog.funcs[4]? = some Tryd.f4 ∧ (Tryd.f4.name == "runtime.NumGoroutine") = false ∧ (prg.fi 4).nt ≤ Tryd.f4.ntmps := ⟨Tryd.func4, by kernel_rfl, Nat.le_of_ble_eq_true (by kernel_rfl)⟩
theorem cok5 : Tryd.prog.funcs[5]? = some Tryd.f5 ∧ (Tryd.f5.name == "runtime.NumGoroutine") = false ∧ (prg.fi 5).nt ≤ Tryd.f5.ntmps := ⟨Tryd.func5, by kernel_rfl, Nat.le_of_ble_eq_true (by kernel_rfl)⟩
theorem cok6 : Tryd.prog.funcs[6]? = some Tryd.f6 ∧ (Tryd.f6.name == "runtime.NumGoroutine") = false ∧ (prg.fi 6).nt ≤ Tryd.f6.ntmps := ⟨Tryd.func6, by kernel_rfl, Nat.le_of_ble_eq_true (by kernel_rfl)⟩
theorem cok7 : Tryd.prog.funcs[7]? = some Tryd.f7 ∧ (Tryd.f7.name == "runtime.NumGoroutine") = false ∧ (prg.fi 7).nt ≤ Tryd.f7.ntmps := ⟨Tryd.func7, by kernel_rfl, Nat.le_of_ble_eq_true (by kernel_rfl)⟩
theorem cok8 : Tryd.prog.funcs[8]? = some Tryd.f8 ∧ (Tryd.f8.name == "runtime.NumGoroutine") = false ∧ (prg.fi 8).nt ≤ Tryd.f8.ntmps := ⟨Tryd.func8, by kernel_rfl, Nat.le_of_ble_eq_true (by kernel_rfl)⟩
theorem cok9 : Tryd.prog.funcs[9]? = some Tryd.f9 ∧ (Tryd.f9.name == "runtime.NumGoroutine") = false ∧ (prg.fi 9).nt ≤ Tryd.f9.ntmps := ⟨Tryd.func9, by kernel_rfl, Nat.le_of_ble_eq_true (by kernel_rfl)⟩
theorem cok10 : Tryd.prog.funcs[10]? = some Tryd.f10 ∧ (Tryd.f10.name == "runtime.NumGoroutine") = false ∧ (prg.fi 10).nt ≤ Tryd.f10.ntmps := ⟨Tryd.func10, by kernel_rfl, Nat.le_of_ble_eq_true (by kernel_rfl)⟩
theorem cok11 : Tryd.prog.funcs[11]? = some Tryd.f11 ∧ (Tryd.f11.name == "runtime.NumGoroutine") = false ∧ (prg.fi 11).nt ≤ Tryd.f11.ntmps := ⟨Tryd.func11, by kernel_rfl, Nat.le_of_ble_eq_true (by kernel_rfl)⟩
theorem cok12 : Tryd.prog.funcs[12]? = some Tryd.f12 ∧ (Tryd.f12.name == "runtime.NumGoroutine") = false ∧ (prg.fi 12).nt ≤ Tryd.f12.ntmps := ⟨Tryd.func12, by kernel_rfl, Nat.le_of_ble_eq_true (by kernel_rfl)⟩
theorem cok13 : Tryd.prog.funcs[13]? = some Tryd.f13 ∧ (Tryd.f13.name == "runtime.NumGoroutine") = false ∧ (prg.fi 13).nt ≤ Tryd.f13.ntmps := ⟨Tryd.func13, by kernel_rfl, Nat.le_of_ble_eq_true (by kernel_rfl)⟩
theorem cok14 : Tryd.prog.funcs[14]? = some Tryd.f14 ∧ (Tryd.f14.name == "runtime.NumGoroutine") = false ∧ (prg.fi 14).nt ≤ Tryd.f14.ntmps := ⟨Tryd.func14, by kernel_rfl, Nat.le_of_ble_eq_true (by kernel_rfl)⟩
theorem cok15 : Tryd.prog.funcs[15]? = some Tryd.f15 ∧ (Tryd.f15.name == "runtime.NumGoroutine") = false ∧ (prg.fi 15).nt ≤ Tryd.f15.ntmps := ⟨Tryd.func15, by kernel_rfl, Nat.le_of_ble_eq_true (by kernel_rfl)⟩
theorem cok16 : Tryd.prog.funcs[16]? = some Tryd.f16 ∧ (Tryd.f16.name == "runtime.NumGoroutine") = false ∧ (prg.fi 16).nt ≤ Tryd.f16.ntmps := ⟨Tryd.func16, by kernel_rfl, Nat.le_of_ble_eq_true (by kernel_rfl)⟩
theorem cok17 : Tryd.prog.funcs[17]? = some Tryd.f17 ∧ (Tryd.f17.name == "runtime.NumGoroutine") = false ∧ (prg.fi 17).nt ≤ Tryd.f17.ntmps := ⟨Tryd.func17, by kernel_rfl, Nat.le_of_ble_eq_true (by kernel_rfl)⟩
theorem cok18 : Tryd.prog.funcs[18]? = some Tryd.f18 ∧ (Tryd.f18.name == "runtime.NumGoroutine") = false ∧ (prg.fi 18).nt ≤ Tryd.f18.ntmps := ⟨Tryd.func18, by kernel_rfl, Nat.le_of_ble_eq_true (by kernel_rfl)⟩
theorem cok19 : Tryd.prog.funcs[19]? = some Tryd.f19 ∧ (Tryd.f19.name == "runtime.NumGoroutine") = false ∧ (prg.fi 19).nt ≤ Tryd.f19.ntmps := ⟨Tryd.func19, by kernel_rfl, Nat.le_of_ble_eq_true (by kernel_rfl)⟩
theorem cok20 : Tryd.prog.funcs[20]? = some Tryd.f20 ∧ (Tryd.f20.name == "runtime.NumGoroutine") = false ∧ (prg.fi 20).nt ≤ Tryd.f20.ntmps := ⟨Tryd.func20, by kernel_rfl, Nat.le_of_ble_eq_true (by kernel_rfl)⟩
theorem cok21 : Tryd.prog.funcs[21]? = some Tryd.f21 ∧ (Tryd.f21.name == "runtime.NumGoroutine") = false ∧ (prg.fi 21).nt ≤ Tryd.f21.ntmps := ⟨Tryd.func21, by kernel_rfl, Nat.le_of_ble_eq_true (by kernel_rfl)⟩
theorem cok22 : Tryd.prog.funcs[22]? = some Tryd.f22 ∧ (Tryd.f22.name == "runtime.NumGoroutine") = false ∧ (prg.fi 22).nt ≤ Tryd.f22.ntmps := ⟨Tryd.func22, by kernel_rfl, Nat.le_of_ble_eq_true (by kernel_rfl)⟩
theorem cok23 : Tryd.prog.funcs[23]? = some Tryd.f23 ∧ (Tryd.f23.name == "runtime.NumGoroutine") = false ∧ (prg.fi 23).nt ≤ Tryd.f23.ntmps := ⟨Tryd.func23, by kernel_rfl, Nat.le_of_ble_eq_true (by kernel_rfl)⟩
theorem cok24 : Tryd.prog.funcs[24]? = some Tryd.f24 ∧ (Tryd.f24.name == "runtime.NumGoroutine") = false ∧ (prg.fi 24).nt ≤ Tryd.f24.ntmps := ⟨Tryd.func24, by kernel_rfl, Nat.le_of_ble_eq_true (by kernel_rfl)⟩
theorem cok25 : Tryd.prog.funcs[25]? = some Tryd.f25 ∧ (Tryd.f25.name == "runtime.NumGoroutine") = false ∧ (prg.fi 25).nt ≤ Tryd.f25.ntmps := ⟨Tryd.func25, by kernel_rfl, Nat.le_of_ble_eq_true (by kernel_rfl)⟩
theorem cok26 : Tryd.prog.funcs[26]? = some Tryd.f26 ∧ (Tryd.f26.name == "runtime.NumGoroutine") = false ∧ (prg.fi 26).nt ≤ Tryd.f26.ntmps := ⟨Tryd.func26, by kernel_rfl, Nat.le_of_ble_eq_true (by kernel_rfl)⟩
theorem cok27 : Tryd.prog.funcs[27]? = some Tryd.f27 ∧ (Tryd.f27.name == "runtime.NumGoroutine") = false ∧ (prg.fi 27).nt ≤ Tryd.f27.ntmps := ⟨Tryd.func27, by kernel_rfl, Nat.le_of_ble_eq_true (by kernel_rfl)⟩
theorem cok28 : Tryd.prog.funcs[28]? = some Tryd.f28 ∧ (Tryd.f28.name == "runtime.NumGoroutine") = false ∧ (prg.fi 28).nt ≤ Tryd.f28.ntmps := ⟨Tryd.func28, by kernel_rfl, Nat.le_of_ble_eq_true (by kernel_rfl)⟩
theorem cok29 : Tryd.prog.funcs[29]? = some Tryd.f29 ∧ (Tryd.f29.name == "runtime.NumGoroutine") = false ∧ (prg.fi 29).nt ≤ Tryd.f29.ntmps := ⟨Tryd.func29, by kernel_rfl, Nat.le_of_ble_eq_true (by kernel_rfl)⟩
theorem cok30 : Tryd.prog.funcs[30]? = some Tryd.f30 ∧ (Tryd.f30.name == "runtime.NumGoroutine") = false ∧ (prg.fi 30).nt ≤ Tryd.f30.ntmps := ⟨Tryd.func30, by kernel_rfl, Nat.le_of_ble_eq_true (by kernel_rfl)⟩
theorem cok31 : Tryd.prog.funcs[31]? = some Tryd.f31 ∧ (Tryd.f31.name == "runtime.NumGoroutine") = false ∧ (prg.fi 31).nt ≤ Tryd.f31.ntmps := ⟨Tryd.func31, by kernel_rfl, Nat.le_of_ble_eq_true (by kernel_rfl)⟩
theorem cok32 : Tryd.prog.funcs[32]? = some Tryd.f32 ∧ (Tryd.f32.name == "runtime.NumGoroutine") = false ∧ (prg.fi 32).nt ≤ Tryd.f32.ntmps := ⟨Tryd.func32, by kernel_rfl, Nat.le_of_ble_eq_true (by kernel_rfl)⟩
theorem cok33 : Tryd.prog.funcs[33]? = some Tryd.f33 ∧ (Tryd.f33.name == "runtime.NumGoroutine") = false ∧ (prg.fi 33).nt ≤ Tryd.f33.ntmps := ⟨Tryd.func33, by kernel_rfl, Nat.le_of_ble_eq_true (by kernel_rfl)⟩
theorem cok34 : Tryd.prog.funcs[34]? = some Tryd.f34 ∧ (Tryd.f34.name == "runtime.NumGoroutine") = false ∧ (prg.fi 34).nt ≤ Tryd.f34.ntmps := ⟨Tryd.func34, by kernel_rfl, Nat.le_of_ble_eq_true (by kernel_rfl)⟩
theorem cok35 : Tryd.prog.funcs[35]? = some Tryd.f35 ∧ (Tryd.f35.name == "runtime.NumGoroutine") = false ∧ (prg.fi 35).nt ≤ Tryd.f35.ntmps := ⟨Tryd.func35, by kernel_rfl, Nat.le_of_ble_eq_true (by kernel_rfl)⟩
theorem cok36 : Tryd.prog.funcs[36]? = some Tryd.f36 ∧ (Tryd.f36.name == "runtime.NumGoroutine") = false ∧ (prg.fi 36).nt ≤ Tryd.f36.ntmps := ⟨Tryd.func36, by kernel_rfl, Nat.le_of_ble_eq_true (by kernel_rfl)⟩
theorem cok37 : Tryd.prog.funcs[37]? = some Tryd.f37 ∧ (Tryd.f37.name == "runtime.NumGoroutine") = false ∧ (prg.fi 37).nt ≤ Tryd.f37.ntmps := ⟨Tryd.func37, by kernel_rfl, Nat.le_of_ble_eq_true (by kernel_rfl)⟩
theorem cok38 : Tryd.prog.funcs[38]? = some Tryd.f38 ∧ (Tryd.f38.name == "runtime.NumGoroutine") = false ∧ (prg.fi 38).nt ≤ Tryd.f38.ntmps := ⟨Tryd.func38, by kernel_rfl, Nat.le_of_ble_eq_true (by kernel_rfl)⟩
theorem cok39 : Tryd.prog.funcs[39]? = some Tryd.f39 ∧ (Tryd.f39.name == "runtime.NumGoroutine") = false ∧ (prg.fi 39).nt ≤ Tryd.f39.ntmps := ⟨Tryd.func39, by kernel_rfl, Nat.le_of_ble_eq_true (by kernel_rfl)⟩
theorem cok40 : Tryd.prog.funcs[40]? = some Tryd.f40 ∧ (Tryd.f40.name == "runtime.NumGoroutine") = false ∧ (prg.fi 40).nt ≤ Tryd.f40.ntmps := ⟨Tryd.func40, by kernel_rfl, Nat.le_of_ble_eq_true (by kernel_rfl)⟩
theorem cok41 : Tryd.prog.funcs[41]? = some Tryd.f41 ∧ (Tryd.f41.name == "runtime.NumGoroutine") = false ∧ (prg.fi 41).nt ≤ Tryd.f41.ntmps := ⟨Tryd.func41, by kernel_rfl, Nat.le_of_ble_eq_true (by kernel_rfl)⟩
theorem cok42 : Tryd.prog.funcs[42]? = some Tryd.f42 ∧ (Tryd.f42.name == "runtime.NumGoroutine") = false ∧ (prg.fi 42).nt ≤ Tryd.f42.ntmps := ⟨Tryd.func42, by kernel_rfl, Nat.le_of_ble_eq_true (by kernel_rfl)⟩
theorem cok43 : Tryd.prog.funcs[43]? = some Tryd.f43 ∧ (Tryd.f43.name == "runtime.NumGoroutine") = false ∧ (prg.fi 43).nt ≤ Tryd.f43.ntmps := ⟨Tryd.func43, by kernel_rfl, Nat.le_of_ble_eq_true (by kernel_rfl)⟩
theorem cok44 : Tryd.prog.funcs[44]? = some Tryd.f44 ∧ (Tryd.f44.name == "runtime.NumGoroutine") = false ∧ (prg.fi 44).nt ≤ Tryd.f44.ntmps := ⟨Tryd.func44, by kernel_rfl, Nat.le_of_ble_eq_true (by kernel_rfl)⟩
theorem cok45 : Tryd.prog.funcs[45]? = some Tryd.f45 ∧ (Tryd.f45.name == "runtime.NumGoroutine") = false ∧ (prg.fi 45).nt ≤ Tryd.f45.ntmps := ⟨Tryd.func45, by kernel_rfl, Nat.le_of_ble_eq_true (by kernel_rfl)⟩
theorem cok46 : Tryd.prog.funcs[46]? = some Tryd.f46 ∧ (Tryd.f46.name == "runtime.NumGoroutine") = false ∧ (prg.fi 46).nt ≤ Tryd.f46.ntmps := ⟨Tryd.func46, by kernel_rfl, Nat.le_of_ble_eq_true (by kernel_rfl)⟩
theorem cok47 : Tryd.prog.funcs[47]? = some Tryd.f47 ∧ (Tryd.f47.name == "runtime.NumGoroutine") = false ∧ (prg.fi 47).nt ≤ Tryd.f47.ntmps := ⟨Tryd.func47, by kernel_rfl, Nat.le_of_ble_eq_true (by kernel_rfl)⟩
theorem cok48 : Tryd.prog.funcs[48]? = some Tryd.f48 ∧ (Tryd.f48.name == "runtime.NumGoroutine") = false ∧ (prg.fi 48).nt ≤ Tryd.f48.ntmps := ⟨Tryd.func48, by kernel_rfl, Nat.le_of_ble_eq_true (by kernel_rfl)⟩
theorem cok49 : Tryd.prog.funcs[49]? = some Tryd.f49 ∧ (Tryd.f49.name == "runtime.NumGoroutine") = false ∧ (prg.fi 49).nt ≤ Tryd.f49.ntmps := ⟨Tryd.func49, by kernel_rfl, Nat.le_of_ble_eq_true (by kernel_rfl)⟩
theorem cok50 : Tryd.prog.funcs[50]? = some Tryd.f50 ∧ (Tryd.f50.name == "runtime.NumGoroutine") = false ∧ (prg.fi 50).nt ≤ Tryd.f50.ntmps := ⟨Tryd.func50, by kernel_rfl, Nat.le_of_ble_eq_true (by kernel_rfl)⟩
theorem cok51 : Tryd.prog.funcs[51]? = some Tryd.f51 ∧ (Tryd.f51.name == "runtime.NumGoroutine") = false ∧ (prg.fi 51).nt ≤ Tryd.f51.ntmps := ⟨Tryd.func51, by kernel_rfl, Nat.le_of_ble_eq_true (by kernel_rfl)⟩
theorem cok52 : Tryd.prog.funcs[52]? = some Tryd.f52 ∧ (Tryd.f52.name == "runtime.NumGoroutine") = false ∧ (prg.fi 52).nt ≤ Tryd.f52.ntmps := ⟨Tryd.func52, by kernel_rfl, Nat.le_of_ble_eq_true (by kernel_rfl)⟩
theorem cok53 : Tryd.prog.funcs[53]? = some Tryd.f53 ∧ (Tryd.f53.name == "runtime.NumGoroutine") = false ∧ (prg.fi 53).nt ≤ Tryd.f53.ntmps := ⟨Tryd.func53, by kernel_rfl, Nat.le_of_ble_eq_true (by kernel_rfl)⟩
theorem cok54 : Tryd.prog.funcs[54]? = some Tryd.f54 ∧ (Tryd.f54.name == "runtime.NumGoroutine") = false ∧ (prg.fi 54).nt ≤ Tryd.f54.ntmps := ⟨Tryd.func54, by kernel_rfl, Nat.le_of_ble_eq_true (by kernel_rfl)⟩
theorem cok55 : Tryd.prog.funcs[55]? = some Tryd.f55 ∧ (Tryd.f55.name == "runtime.NumGoroutine") = false ∧ (prg.fi 55).nt ≤ Tryd.f55.ntmps := ⟨Tryd.func55, by kernel_rfl, Nat.le_of_ble_eq_true (by kernel_rfl)⟩
theorem cok56 : Tryd.prog.funcs[56]? = some Tryd.f56 ∧ (Tryd.f56.name == "runtime.NumGoroutine") = false ∧ (prg.fi 56).nt ≤ Tryd.f56.ntmps := ⟨Tryd.func56, by kernel_rfl, Nat.le_of_ble_eq_true (by kernel_rfl)⟩
theorem cok57 : Tryd.prog.funcs[57]? = some Tryd.f57 ∧ (Tryd.f57.name == "runtime.NumGoroutine") = false ∧ (prg.fi 57).nt ≤ Tryd.f57.ntmps := ⟨Tryd.func57, by kernel_rfl, Nat.le_of_ble_eq_true (by kernel_rfl)⟩
theorem cok58 : Tryd.prog.funcs[58]? = some Tryd.f58 ∧ (Tryd.f58.name == "runtime.NumGoroutine") = false ∧ (prg.fi 58).nt ≤ Tryd.f58.ntmps := ⟨Tryd.func58, by kernel_rfl, Nat.le_of_ble_eq_true (by kernel_rfl)⟩
theorem cok59 : Tryd.prog.funcs[59]? = some Tryd.f59 ∧ (Tryd.f59.name == "runtime.NumGoroutine") = false ∧ (prg.fi 59).nt ≤ Tryd.f59.ntmps := ⟨Tryd.func59, by kernel_rfl, Nat.le_of_ble_eq_true (by kernel_rfl)⟩
theorem cok60 : Tryd.prog.funcs[60]? = some Tryd.f60 ∧ (Tryd.f60.name == "runtime.NumGoroutine") = false ∧ (prg.fi 60).nt ≤ Tryd.f60.ntmps := ⟨Tryd.func60, by kernel_rfl, Nat.le_of_ble_eq_true (by kernel_rfl)⟩
theorem cok61 : Tryd.prog.funcs[61]? = some Tryd.f61 ∧ (Tryd.f61.name == "runtime.NumGoroutine") = false ∧ (prg.fi 61).nt ≤ Tryd.f61.ntmps := ⟨Tryd.func61, by kernel_rfl, Nat.le_of_ble_eq_true (by kernel_rfl)⟩
theorem cok63 : Tryd.prog.funcs[63]? = some Tryd.f63 ∧ (Tryd.f63.name == "runtime.NumGoroutine") = false ∧ (prg.fi 63).nt ≤ Tryd.f63.ntmps := ⟨Tryd.func63, by kernel_rfl, Nat.le_of_ble_eq_true (by kernel_rfl)⟩
theorem cok64 : Tryd.prog.funcs[64]? = some Tryd.f64 ∧ (Tryd.f64.name == "runtime.NumGoroutine") = false ∧ (prg.fi 64).nt ≤ Tryd.f64.ntmps := ⟨Tryd.func64, by kernel_rfl, Nat.le_of_ble_eq_true (by kernel_rfl)⟩
theorem cok65 : Tryd.prog.funcs[65]? = some Tryd.f65 ∧ (Tryd.f65.name == "runtime.NumGoroutine") = false ∧ (prg.fi 65).nt ≤ Tryd.f65.ntmps := ⟨Tryd.func65, by kernel_rfl, Nat.le_of_ble_eq_true (by kernel_rfl)⟩
theorem cok66 : Tryd.prog.funcs[66]? = some Tryd.f66 ∧ (Tryd.f66.name == "runtime.NumGoroutine") = false ∧ (prg.fi 66).nt ≤ Tryd.f66.ntmps := ⟨Tryd.func66, by kernel_rfl, Nat.le_of_ble_eq_true (by kernel_rfl)⟩
theorem cok67 : Tryd.prog.funcs[67]? = some Tryd.f67 ∧ (Tryd.f67.name == "runtime.NumGoroutine") = false ∧ (prg.fi 67).nt ≤ Tryd.f67.ntmps := ⟨Tryd.func67, by kernel_rfl, Nat.le_of_ble_eq_true (by kernel_rfl)⟩
theorem cok68 : Tryd.prog.funcs[68]? = some Tryd.f68 ∧ (Tryd.f68.name == "runtime.NumGoroutine") = false ∧ (prg.fi 68).nt ≤ Tryd.f68.ntmps := ⟨Tryd.func68, by kernel_rfl, Nat.le_of_ble_eq_true (by kernel_rfl)⟩
theorem cok69 : Tryd.prog.funcs[69]? = some Tryd.f69 ∧ (Tryd.f69.name == "runtime.NumGoroutine") = false ∧ (prg.fi 69).nt ≤ Tryd.f69.ntmps := ⟨Tryd.func69, by kernel_rfl, Nat.le_of_ble_eq_true (by kernel_rfl)⟩
theorem cok70 : Tryd.prog.funcs[70]? = some Tryd.f70 ∧ (Tryd.f70.name == "runtime.NumGoroutine") = false ∧ (prg.fi 70).nt ≤ Tryd.f70.ntmps := ⟨Tryd.func70, by kernel_rfl, Nat.le_of_ble_eq_true (by kernel_rfl)⟩
theorem cok71 : Tryd.prog.funcs[71]? = some Tryd.f71 ∧ (Tryd.f71.name == "runtime.NumGoroutine") = false ∧ (prg.fi 71).nt ≤ Tryd.f71.ntmps := ⟨Tryd.func71, by kernel_rfl, Nat.le_of_ble_eq_true (by kernel_rfl)⟩
theorem cok72 : Tryd.prog.funcs[72]? = some Tryd.f72 ∧ (Tryd.f72.name == "runtime.NumGoroutine") = false ∧ (prg.fi 72).nt ≤ Tryd.f72.ntmps := ⟨Tryd.func72, by kernel_rfl, Nat.le_of_ble_eq_true (by kernel_rfl)⟩
theorem cok73 : Tryd.prog.funcs[73]? = some Tryd.f73 ∧ (Tryd.f73.name == "runtime.NumGoroutine") = false ∧ (prg.fi 73).nt ≤ Tryd.f73.ntmps := ⟨Tryd.func73, by kernel_rfl, Nat.le_of_ble_eq_true (by kernel_rfl)⟩
theorem cok74 : Tryd.prog.funcs[74]? = some Tryd.f74 ∧ (Tryd.f74.name == "runtime.NumGoroutine") = false ∧ (prg.fi 74).nt ≤ Tryd.f74.ntmps := ⟨Tryd.func74, by kernel_rfl, Nat.le_of_ble_eq_true (by kernel_rfl)⟩
theorem codesR : codesOk Tryd.prog prg.fi 0 codeL := ⟨cok3, ⟨cok4, ⟨cok5, ⟨cok6, ⟨cok7, ⟨cok8, ⟨cok9, ⟨cok10, ⟨cok11, ⟨cok12, ⟨cok13, ⟨cok14, ⟨cok15, ⟨cok16, ⟨cok17, ⟨cok18, ⟨cok19, ⟨cok20, ⟨cok21, ⟨cok22, ⟨cok23, ⟨cok24, ⟨cok25, ⟨cok26, ⟨cok27, ⟨cok28, ⟨cok29, ⟨cok30, ⟨cok31, ⟨cok32, ⟨cok33, ⟨cok34, ⟨cok35, ⟨cok36, ⟨cok37, ⟨cok38, ⟨cok39, ⟨cok40, ⟨cok41, ⟨cok42, ⟨cok43, ⟨cok44, ⟨cok45, ⟨cok46, ⟨cok47, ⟨cok48, ⟨cok49, ⟨cok50, ⟨cok51, ⟨cok52, ⟨cok53, ⟨cok54, ⟨cok55, ⟨cok56, ⟨cok57, ⟨cok58, ⟨cok59, ⟨cok60, ⟨cok61, ⟨cok63, ⟨cok64, ⟨cok65, ⟨cok66, ⟨cok67, ⟨cok68, ⟨cok69, ⟨cok70, ⟨cok71, ⟨cok72, ⟨cok73, ⟨cok74, trivial⟩⟩⟩⟩⟩⟩⟩⟩⟩⟩⟩⟩⟩⟩⟩⟩⟩⟩⟩⟩⟩⟩⟩⟩⟩⟩⟩⟩⟩⟩⟩⟩⟩⟩⟩⟩⟩⟩⟩⟩⟩⟩⟩⟩⟩⟩⟩⟩⟩⟩⟩⟩⟩⟩⟩⟩⟩⟩⟩⟩⟩⟩⟩⟩⟩⟩⟩⟩⟩⟩⟩
theorem prgR : PrgOK Tryd.prog prg where
  tab := tabR
  code := fun f fn h => by
    have h' : codeL[f]? = some (some fn) := by
      have h2 : (codeL[f]?).getD none = some fn := h
      cases hx : codeL[f]? with
      | none => rw [hx] at h2; cases h2
      | some x => rw [hx] at h2; exact congrArg some h2
    have := codesOk_get codesR f fn h'
    simpa using this
  prim := fun f q h => by
    have h' : primF f = some q := h
    unfold primF at h'
    cases h'
  mix := by kernel_rfl
end Go.Proofs.YtebaiioejagfoaaDoor
/- What (*strings.Builder).String gives, at this dump: the shelf's contract, laid. -/
namespace Go.Proofs
open Go.Shelf
def Tryd.lays169_ren : Go.Shelf.Ren := ⟨fun | 169 => 56 | n => n, fun | 70 => 85 | 9 => 9 | 0 => 0 | 72 => 87 | 37 => 78 | 127 => 96 | 3 => 3 | 5 => 5 | n => n, fun | n => n⟩
theorem Tryd.lays169 : Go.Proofs.Lays.n169 Tryd.prog Tryd.lays169_ren := {
  mixed := by kernel_rfl
  f169 := Tryd.func56.trans (congrArg some (by kernel_rfl))
  t0 := Tryd.underlying0
  a0 := Tryd.isAgg0
  z0 := Tryd.sizeOf0
  v0 := Tryd.zeroValue0
  t3 := Tryd.underlying3
  a3 := Tryd.isAgg3
  z3 := Tryd.sizeOf3
  v3 := Tryd.zeroValue3
  t9 := Tryd.underlying9
  a9 := Tryd.isAgg9
  z9 := Tryd.sizeOf9
  v9 := Tryd.zeroValue9
  t37 := Tryd.underlying78
  a37 := Tryd.isAgg78
  z37 := Tryd.sizeOf78
  v37 := Tryd.zeroValue78
  t70 := Tryd.underlying85
  a70 := Tryd.isAgg85
  z70 := Tryd.sizeOf85
  v70 := Tryd.zeroValue85
  t72 := Tryd.underlying87
  a72 := Tryd.isAgg87
  z72 := Tryd.sizeOf87
  v72 := Tryd.zeroValue87
  t127 := Tryd.underlying96
  a127 := Tryd.isAgg96
  z127 := Tryd.sizeOf96
  v127 := Tryd.zeroValue96 }
theorem Tryd.Builder_Extra_169 : Builder.Extra Tryd.prog Tryd.lays169_ren := {
  sizeBuilder := by kernel_rfl
  liesBuilder := by kernel_rfl
  t5 := Tryd.underlying5
  a5 := Tryd.isAgg5
  z5 := Tryd.sizeOf5
  v5 := Tryd.zeroValue5
  infoByte := by kernel_rfl
  cellsByte := by kernel_rfl
  sizeByte := by kernel_rfl
  neB5 := by decide }
open Go.RowKit in
theorem Tryd.Builder_String_k (B b : Nat) (l : List UInt8) (w : World) (h : Lib.IsBuilderF 87 5 B b (Lib.byteCells l) w) (h0 : l ≠ []) :
    Calls Tryd.prog 56 #[.pointer (some ⟨b, 0, none⟩)] w fun e w' => e = .returned (.string ⟨l.toArray⟩) ∧ (Lib.IsBuilderF 87 5 B b (Lib.byteCells l) w' ∧ Below B w w' ∧ Lib.OthersKept 5 (some b) w w') := Any.Builder_String_k Tryd.lays169 Tryd.Builder_Extra_169 B b l w h h0
open Go.RowKit in
theorem Tryd.Builder_String_empty_k (B b : Nat) (w : World) (h : Lib.IsBuilderF 87 5 B b [] w) (hBw : B ≤ w.heap.size) :
    Calls Tryd.prog 56 #[.pointer (some ⟨b, 0, none⟩)] w fun e w' => e = .returned (.string ⟨#[]⟩) ∧ (Lib.IsBuilderF 87 5 B b [] w' ∧ Below B w w' ∧ Lib.OthersKept 5 (some b) w w') := Any.Builder_String_empty_k Tryd.lays169 Tryd.Builder_Extra_169 B b w h hBw
open Go.RowKit in
theorem Tryd.Builder_String_any_k (B b : Nat) (l : List UInt8) (w : World) (h : Lib.IsBuilderF 87 5 B b (Lib.byteCells l) w) (hBw : B ≤ w.heap.size) :
    Calls Tryd.prog 56 #[.pointer (some ⟨b, 0, none⟩)] w fun e w' => e = .returned (.string ⟨l.toArray⟩) ∧ (Lib.IsBuilderF 87 5 B b (Lib.byteCells l) w' ∧ Below B w w' ∧ Lib.OthersKept 5 (some b) w w') := Any.Builder_String_any_k Tryd.lays169 Tryd.Builder_Extra_169 B b l w h hBw
end Go.Proofs

/- strings.Builder: what its writers leave, at this dump. -/
set_option linter.unusedVariables false
set_option linter.unusedSimpArgs false
namespace Go.Proofs.YtebaiioejagfoaaDoor
open Go Go.Shelf Go.RowKit Go.Lib Go.Proofs
set_option maxHeartbeats 4000000
set_option maxRecDepth 100000
theorem bd_size : ∃ j, Tryd.prog.info? 87 = some j ∧ j.size = 2 := Option.map_eq_some_iff.1 (show Option.map (fun x => x.size) (Tryd.prog.info? 87) = some 2 by kernel_rfl)
theorem bd_byte : ∃ i, Tryd.prog.info? 5 = some i ∧ i.zero = some (.int .u8 0) ∧ i.size = 1 ∧ i.bytes = 1 := by
  obtain ⟨i, hi, e⟩ := Option.map_eq_some_iff.1 (show Option.map (fun i => (i.zero, i.size, i.bytes)) (Tryd.prog.info? 5) = some (some (.int .u8 0), 1, 1) by kernel_rfl)
  simp only [Prod.mk.injEq] at e
  exact ⟨i, hi, e.1, e.2.1, e.2.2⟩
theorem cc_used (b : Nat) (w : World) (h0 : w.cell? ⟨b, 0, none⟩ = some (.pointer (some ⟨b, 0, none⟩))) :
    Calls Tryd.prog 60 #[.pointer (some ⟨b, 0, none⟩)] w fun e w' => e = .returned (.tuple #[]) ∧ w' = w := by
  obtain ⟨j, hj, -⟩ := bd_size
  have mixed : Tryd.prog.follows .mixedOrders = true := by kernel_rfl
  go_enter Tryd.func60, Tryd.ntmps60
  go_wp2
  rw [Lib.run_neq_ptr_same w _ Tryd.underlying85 hj]
  go_wp2
  go_end0
  exact ⟨rfl, rfl⟩
theorem cc_fresh (b : Nat) (w : World) (h0 : w.cell? ⟨b, 0, none⟩ = some (.pointer none)) (hsh : w.shape? b = some (87, 2)) (hfz : w.frozen? ⟨b, 0, none⟩ = false) :
    Calls Tryd.prog 60 #[.pointer (some ⟨b, 0, none⟩)] w fun e w' => e = .returned (.tuple #[]) ∧ w' = w.setCell ⟨b, 0, none⟩ (.pointer (some ⟨b, 0, none⟩)) := by
  obtain ⟨j, hj, hjs⟩ := bd_size
  have mixed : Tryd.prog.follows .mixedOrders = true := by kernel_rfl
  go_enter Tryd.func60, Tryd.ntmps60
  go_wp2
  rw [Lib.run_to_unsafe w ⟨b, 0, none⟩ Tryd.underlying85 Tryd.underlying97 hj (by rw [hjs]; decide) hsh (Nat.zero_lt_succ 1)]
  simp only [Result.andThen]
  rw [Oper.upon_value]
  go_wp2
  rw [run_callFunc_extern Tryd.func62 (by kernel_rfl) (by kernel_rfl) (by kernel_rfl) (e := Extern.AbiNoEscape.same) (by kernel_rfl)]
  rw [Lib.run_noEscape]
  simp only [Result.andThen]
  rw [Oper.upon_value]
  go_wp2
  rw [Lib.run_from_unsafe w ⟨b, 0, none⟩ Tryd.underlying97 Tryd.underlying85 hj hsh (by kernel_rfl)]
  simp only [Result.andThen]
  rw [Oper.upon_value]
  go_wp2
  go_end0
  exact ⟨rfl, rfl⟩
theorem cc_k (B b : Nat) (bs : List Value) (w : World) (h : Lib.IsBuilderF 87 5 B b bs w) :
    Calls Tryd.prog 60 #[.pointer (some ⟨b, 0, none⟩)] w fun e w' => e = .returned (.tuple #[]) ∧ (Lib.BuilderAtF 87 5 B b (.pointer (some ⟨b, 0, none⟩)) bs w' ∧ Below B w w') := by
  rcases h with h | h
  · refine (cc_fresh b w h.cell0 h.shape h.frozen0).mono ?_
    rintro e w' ⟨rfl, rfl⟩
    exact ⟨rfl, h.used _, (Below.refl B w).setCell (p := ⟨b, 0, none⟩) h.1 _⟩
  · refine (cc_used b w h.cell0).mono ?_
    rintro e w' ⟨rfl, rfl⟩
    exact ⟨rfl, h, Below.refl B _⟩
theorem ws_k (B b : Nat) (bs : List Value) (s : ByteArray) (w : World) (h : Lib.IsBuilderF 87 5 B b bs w) (hlen : bs.length + s.size ≤ 140737488355328) (hBw : B ≤ w.heap.size) :
    Calls Tryd.prog 53 #[.pointer (some ⟨b, 0, none⟩), .string s] w fun e w' => e = .returned (.tuple #[.int .i64 s.size, .nilIface]) ∧ (Lib.IsBuilderF 87 5 B b (bs ++ Lib.strCells s) w' ∧ Below B w w') := by
  obtain ⟨i0, hi, hz0, hz1, hz2⟩ := bd_byte
  have mixed : Tryd.prog.follows .mixedOrders = true := by kernel_rfl
  go_enter Tryd.func53, Tryd.ntmps53
  go_wp2_with (go_at_call 60; refine (cc_k B b bs _ h).mono ?_)
  rintro e w1 ⟨rfl, h1, hb1⟩
  obtain ⟨hB, v, hbk, hown, hne⟩ := h1
  have c0 : w1.cell? ⟨b, 0, none⟩ = some (.pointer (some ⟨b, 0, none⟩)) := by rw [Lib.cell_of_heap hbk]; rfl
  have c1 : w1.cell? ⟨b, 1, none⟩ = some v := by rw [Lib.cell_of_heap hbk]; rfl
  go_wp2_with (at_builtin; refine Lib.wpList_append_own_stringF _ rfl _ _ 78 9 rfl B 5 i0 Tryd.underlying78 Tryd.underlying9 hi hz0 hz1 hz2 _ _ _ rfl hown s rfl ?c3 ?c4 ?c5 ?_)
  case c3 => unfold maxLen; omega
  case c4 => omega
  case c5 => have := hb1.size; omega
  intro v' w2 hown' hgrow _
  have hlt : b < w1.heap.size := by
    rcases Nat.lt_or_ge b w1.heap.size with h' | h'
    · exact h'
    · simp [Array.getElem?_eq_none h'] at hbk
  have hb2 : w2.heap[b]? = some (.cells #[.pointer (some ⟨b, 0, none⟩), v] 87 (0, 0)) := by
    rw [hgrow.block b hlt (fun e => hne e.symm)]
    exact hbk
  have d0 : w2.cell? ⟨b, 0, none⟩ = some (.pointer (some ⟨b, 0, none⟩)) := by rw [Lib.cell_of_heap hb2]; rfl
  have d1 : w2.cell? ⟨b, 1, none⟩ = some v := by rw [Lib.cell_of_heap hb2]; rfl
  have f1 : w2.frozen? ⟨b, 1, none⟩ = false := Lib.frozen_of_heap hb2 1
  obtain ⟨ao, n', cap, rfl⟩ : ∃ ao n' cap, v' = .slice ao n' cap := by
    rcases hown'.2 with ⟨hv, _⟩ | ⟨g, cap, cur, fz, hv, _⟩
    · exact ⟨_, _, _, hv⟩
    · exact ⟨_, _, _, hv⟩
  go_wp2
  go_ret2
  refine ⟨rfl, .inr ?_, ?_⟩
  · exact Lib.BuilderAtF.put (T := 87) (e := 5) hB hb2 (bs' := bs ++ Lib.strCells s) (by simpa [Lib.strCells_length] using hown') (by decide)
  · exact (hb1.grown hgrow (by have := hb1.size; omega) (fun k hk => (hown.lt k hk).1)).setCell (p := ⟨b, 1, none⟩) hB _
end Go.Proofs.YtebaiioejagfoaaDoor

/- Packages: what is ok; their texts and sums; indexes of them (the reference's functions). -/
namespace Go.Proofs.YtebaiioejagfoaaDoor
open Go
set_option linter.unusedVariables false
set_option linter.unusedSimpArgs false
set_option maxHeartbeats 4000000
def fileAt (l : List TFile) (i : Nat) : Prop := (0 ≤ (nth l i).path ∧ (nth l i).path ≤ 5) ∧ (0 ≤ (nth l i).data ∧ (nth l i).data ≤ 9) ∧ (0 < i → (nth l (i - 1)).path < (nth l i).path)
instance (l : List TFile) (i : Nat) : Decidable (fileAt l i) := by unfold fileAt; exact inferInstance
def depAt (name : Int) (l : List TDep) (i : Nat) : Prop := (1 ≤ (nth l i).name ∧ (nth l i).name ≤ 4) ∧ (nth l i).name ≠ name ∧ (1 ≤ (nth l i).least ∧ (nth l i).least ≤ 5) ∧ (0 < i → (nth l (i - 1)).name < (nth l i).name)
instance (name : Int) (l : List TDep) (i : Nat) : Decidable (depAt name l i) := by unfold depAt; exact inferInstance
def filesAt (l : List TFile) : Bool := decide (∀ i, i < l.length → fileAt l i)
def depsAt (name : Int) (l : List TDep) : Bool := decide (∀ i, i < l.length → depAt name l i)
def filesOk (l : List TFile) : Bool := decide (l.length ≤ 2) && filesAt l
def depsOk (name : Int) (l : List TDep) : Bool := decide (l.length ≤ 2) && depsAt name l
def pkgOk (p : TPkg) : Bool := decide (1 ≤ p.name ∧ p.name ≤ 4) && decide (1 ≤ p.ver ∧ p.ver ≤ 5) && filesOk p.files && depsOk p.name p.deps
theorem pkgOk_iff {p : TPkg} : pkgOk p = true ↔ (1 ≤ p.name ∧ p.name ≤ 4) ∧ (1 ≤ p.ver ∧ p.ver ≤ 5) ∧ filesOk p.files = true ∧ depsOk p.name p.deps = true := by
  simp [pkgOk, and_assoc]
theorem s_l1Files_L (l : List TFile) (hl : l.length ≤ 2000000) : ∀ i, i ≤ l.length → (∀ j, j < i → fileAt l j) → ∀ (k : Int) (c : Nat), k = i →
    Ev (fun n => L47_2 (callF prg n) (n + 1) 0 (n + 1 - c) (.sl 2 (l.map eFile)) (iI k) []) (Is (bB (filesOk l)) []) := by
  refine up_ind ?_
  intro i hi ih hp k c hk
  subst hk
  (refine UL47_2 ?_; unfold LB47_2)
  repeat' (first | ((with_reducible refine eG ?_); first | (with_reducible first | refine ev_gtt ?_ | refine ev_gff ?_ | refine ev_gtf ?_ | refine ev_gft ?_ | refine ev_gu ?_) | refine ev_bd rfl ?_ | refine ev_bd0 rfl ?_ | ((with_reducible refine ev_gB ?_ ?_) <;> intro h)) | ((with_reducible refine eB ?_); first | ((with_reducible first | refine ev_lss ?_ ?_ | refine ev_leq ?_ ?_ | refine ev_gtr ?_ ?_ | refine ev_geq ?_ ?_) <;> intro h <;> try (exfalso; omega)) | ((with_reducible first | refine ev_add ?_ ?_ | refine ev_sub ?_ ?_); · omega) | refine ev_bd rfl ?_ | refine ev_bd0 rfl ?_) | ((with_reducible refine eL ?_); first | ((with_reducible refine ev_lenm ?_ ?_); · rfl) | refine ev_lenom rfl rfl ?_ | refine ev_lenoc rfl rfl rfl ?_ | refine ev_lenc rfl rfl ?_ | refine ev_leno rfl rfl ?_ | refine ev_slen rfl ?_ | refine ev_bd rfl ?_ | refine ev_bd0 rfl ?_) | ((with_reducible refine eI ?_); first | ((with_reducible refine ev_idx ?_ ?_ ?_); (· rfl); · omega) | (refine ev_idxo rfl rfl ?_ ?_; (· first | omega | (simp only [List.length_cons, List.length_nil, List.length_map, List.length_append]; omega))) | refine ev_bd rfl ?_ | refine ev_bd0 rfl ?_) | ((with_reducible refine eC ?_); first | ((refine ev_callD (s_l6In ..) rfl rfl ?_ rfl rfl ?_ ?_); (focus first | exact .inl rfl | exact .inr rfl | (refine .inr ?_; simp [flagC, ownF, hasSl3, hasSl1, SO.hasSl, List.all_map, flatSV, SV.cells, Function.comp_def]; done)); (all_goals (intro h)); (all_goals (try (exfalso; first | omega | exact h rfl | exact h ⟨rfl, rfl, rfl⟩))))) | ((with_reducible refine eK ?_); first | (with_reducible first | refine ev_ct ?_ | refine ev_cf ?_) | ((with_reducible refine ev_cond ?_ ?_) <;> intro h)) | ((with_reducible refine eO ?_); first | refine ev_bd rfl ?_ | (refine ev_bdB rfl ?_ ?_ <;> intro h <;> try (exfalso; simp_all; done)) | refine ev_bd0 rfl ?_) | ((with_reducible refine eD ?_); first | refine ev_bd rfl ?_ | refine ev_bd0 rfl ?_ | ((with_reducible refine ev_pickB ?_ ?_) <;> intro h)) | ((with_reducible refine ih ?_ (all_step hp ?_) _ _ ?_) <;> (first | omega | assumption | ((unfold fileAt; (try simp only [Int.toNat_natCast, tn_sub1, tn_add1] at *); omega)) | (simp only [*, List.map_append, List.length_append, List.length_cons, List.length_nil, List.map_cons, List.map_nil]; done) | (simp_all; done) | (simp_all; omega))) | refine ev_ret rfl ?_)
  all_goals first
    | (have hm : filesAt l = false := all_false (i := i) (by omega) (by unfold fileAt; (try simp only [Int.toNat_natCast, tn_sub1, tn_add1] at *); omega)
       exact ⟨congrArg bB (by simp [filesOk, hm]), rfl⟩)
    | (have hm : filesAt l = true := all_true hp (by omega)
       exact ⟨congrArg bB (by simp [filesOk, hm] <;> omega), rfl⟩)
    | trace_state
theorem s_l1Files (l : List TFile) (hl : l.length ≤ 2000000) : Ex (fun m => callF prg m 47 [.sl 2 (l.map eFile)] []) (bB (filesOk l)) [] := by
  refine ev_is.1 ?_
  (refine U47 (nl := 0) rfl ?_; unfold B47)
  exact s_l1Files_L l hl 0 (by omega) (fun j hj => by omega) 0 0 rfl
theorem s_l1Deps_L (name : Int) (l : List TDep) (hl : l.length ≤ 2000000) : ∀ i, i ≤ l.length → (∀ j, j < i → depAt name l j) → ∀ (k : Int) (c : Nat), k = i →
    Ev (fun n => G48_2 (callF prg n) (n + 1) 0 (n + 1 - c) [iI name, .sl 2 (l.map eDep), iI k] []) (Is (bB (depsOk name l)) []) := by
  refine up_ind ?_
  intro i hi ih hp k c hk
  subst hk
  (refine UG48_2 _ ?_; unfold GB48_2)
  repeat' (first | ((with_reducible refine eG ?_); first | (with_reducible first | refine ev_gtt ?_ | refine ev_gff ?_ | refine ev_gtf ?_ | refine ev_gft ?_ | refine ev_gu ?_) | refine ev_bd rfl ?_ | refine ev_bd0 rfl ?_ | ((with_reducible refine ev_gB ?_ ?_) <;> intro h)) | ((with_reducible refine eB ?_); first | ((with_reducible first | refine ev_lss ?_ ?_ | refine ev_leq ?_ ?_ | refine ev_gtr ?_ ?_ | refine ev_geq ?_ ?_ | refine ev_eql ?_ ?_) <;> intro h <;> try (exfalso; omega)) | ((with_reducible first | refine ev_add ?_ ?_ | refine ev_sub ?_ ?_); · omega) | refine ev_bd rfl ?_ | refine ev_bd0 rfl ?_) | ((with_reducible refine eL ?_); first | ((with_reducible refine ev_lenm ?_ ?_); · rfl) | refine ev_lenom rfl rfl ?_ | refine ev_lenoc rfl rfl rfl ?_ | refine ev_lenc rfl rfl ?_ | refine ev_leno rfl rfl ?_ | refine ev_slen rfl ?_ | refine ev_bd rfl ?_ | refine ev_bd0 rfl ?_) | ((with_reducible refine eI ?_); first | ((with_reducible refine ev_idx ?_ ?_ ?_); (· rfl); · omega) | (refine ev_idxo rfl rfl ?_ ?_; (· first | omega | (simp only [List.length_cons, List.length_nil, List.length_map, List.length_append]; omega))) | refine ev_bd rfl ?_ | refine ev_bd0 rfl ?_) | ((with_reducible refine eC ?_); first | ((refine ev_callD (s_l6In ..) rfl rfl ?_ rfl rfl ?_ ?_); (focus first | exact .inl rfl | exact .inr rfl | (refine .inr ?_; simp [flagC, ownF, hasSl3, hasSl1, SO.hasSl, List.all_map, flatSV, SV.cells, Function.comp_def]; done)); (all_goals (intro h)); (all_goals (try (exfalso; first | omega | exact h rfl | exact h ⟨rfl, rfl, rfl⟩))))) | ((with_reducible refine eK ?_); first | (with_reducible first | refine ev_ct ?_ | refine ev_cf ?_) | ((with_reducible refine ev_cond ?_ ?_) <;> intro h)) | ((with_reducible refine eO ?_); first | refine ev_bd rfl ?_ | (refine ev_bdB rfl ?_ ?_ <;> intro h <;> try (exfalso; simp_all; done)) | refine ev_bd0 rfl ?_) | ((with_reducible refine eD ?_); first | refine ev_bd rfl ?_ | refine ev_bd0 rfl ?_ | ((with_reducible refine ev_pickB ?_ ?_) <;> intro h)) | ((with_reducible refine eH ?_); first | refine ev_gcB rfl ?_) | (with_reducible first | refine UL48_2 ?_ | refine VL48_2 ?_) | ((with_reducible refine ih ?_ (all_step hp ?_) _ _ ?_) <;> (first | omega | assumption | ((unfold depAt; (try simp only [Int.toNat_natCast, tn_sub1, tn_add1] at *); omega)) | (simp only [*, List.map_append, List.length_append, List.length_cons, List.length_nil, List.map_cons, List.map_nil]; done) | (simp_all; done) | (simp_all; omega))) | refine ev_ret rfl ?_)
  all_goals first
    | (have hm : depsAt name l = false := all_false (i := i) (by omega) (by unfold depAt; (try simp only [Int.toNat_natCast, tn_sub1, tn_add1] at *); omega)
       exact ⟨congrArg bB (by simp [depsOk, hm]), rfl⟩)
    | (have hm : depsAt name l = true := all_true hp (by omega)
       exact ⟨congrArg bB (by simp [depsOk, hm] <;> omega), rfl⟩)
    | trace_state
theorem s_l1Deps (name : Int) (l : List TDep) (hl : l.length ≤ 2000000) : Ex (fun m => callF prg m 48 [iI name, .sl 2 (l.map eDep)] []) (bB (depsOk name l)) [] := by
  refine ev_is.1 ?_
  (refine U48 (nl := 0) rfl ?_; unfold B48)
  repeat' (first | ((with_reducible refine eD ?_); first | refine ev_bd rfl ?_ | refine ev_bd0 rfl ?_) | ((with_reducible refine eH ?_); first | refine ev_gcB rfl ?_) | (with_reducible first | refine UL48_2 ?_ | refine VL48_2 ?_) | ( exact s_l1Deps_L name l hl 0 (by omega) (fun j hj => by omega) 0 1 rfl) | refine ev_ret rfl ?_)
theorem s_PkgOkS (name ver : Int) (F : List TFile) (D : List TDep) (hF : F.length ≤ 2000000) (hD : D.length ≤ 2000000) : Ex (fun m => callF prg m 30 [.ag [iI name, iI ver, .sl 2 (F.map eFile), .sl 2 (D.map eDep)]] []) (bB (pkgOk ⟨name, ver, F, D⟩)) [] := by
  refine ev_is.1 ?_
  (refine U30 (nl := 0) rfl ?_; unfold B30)
  repeat' (first | ((with_reducible refine eG ?_); first | (with_reducible first | refine ev_gtt ?_ | refine ev_gff ?_ | refine ev_gtf ?_ | refine ev_gft ?_ | refine ev_gu ?_) | refine ev_bd rfl ?_ | refine ev_bd0 rfl ?_ | ((with_reducible refine ev_gB ?_ ?_) <;> intro h)) | ((with_reducible refine eC ?_); first | ((refine ev_callD (s_l6In ..) rfl rfl ?_ rfl rfl ?_ ?_); (focus first | exact .inl rfl | exact .inr rfl | (refine .inr ?_; simp [flagC, ownF, hasSl3, hasSl1, SO.hasSl, List.all_map, flatSV, SV.cells, Function.comp_def]; done)); (all_goals (intro h)); (all_goals (try (exfalso; first | omega | exact h rfl | exact h ⟨rfl, rfl, rfl⟩)))) | ((refine ev_callB (s_l1Files _ hF) rfl rfl ?_ rfl rfl ?_ ?_); (focus first | exact .inl rfl | exact .inr rfl | (refine .inr ?_; simp [flagC, ownF, hasSl3, hasSl1, SO.hasSl, List.all_map, flatSV, SV.cells, Function.comp_def]; done)); (all_goals (intro h)); (all_goals (try (exfalso; simp_all; done)))) | ((refine ev_callB (s_l1Deps _ _ hD) rfl rfl ?_ rfl rfl ?_ ?_); (focus first | exact .inl rfl | exact .inr rfl | (refine .inr ?_; simp [flagC, ownF, hasSl3, hasSl1, SO.hasSl, List.all_map, flatSV, SV.cells, Function.comp_def]; done)); (all_goals (intro h)); (all_goals (try (exfalso; simp_all; done))))) | ((with_reducible refine eO ?_); first | refine ev_bd rfl ?_ | (refine ev_bdB rfl ?_ ?_ <;> intro h <;> try (exfalso; simp_all; done)) | refine ev_bd0 rfl ?_) | ((with_reducible refine eD ?_); first | refine ev_bd rfl ?_ | refine ev_bd0 rfl ?_ | ((with_reducible refine ev_pickB ?_ ?_) <;> intro h)) | refine ev_ret rfl ?_)
  all_goals (refine ⟨congrArg (fun b => SV.v (Value.bool b)) ?_, rfl⟩; first | (simp_all [pkgOk]; done) | (simp_all [pkgOk]; omega) | (simp [pkgOk] at *; omega) | (simp [pkgOk]; omega) | grind [pkgOk] | trace_state)
def bt (n : Int) : UInt8 := UInt8.ofNat n.toNat
theorem s_l6Dec (n : Int) (h : 0 ≤ n ∧ n < 10) : Ex (fun m => callF prg m 33 [iI n] []) (sS [bt (48 + n)]) [] := by
  refine ev_is.1 ?_
  (refine U33 (nl := 0) rfl ?_; unfold B33)
  repeat' (first | ((with_reducible refine eB ?_); first | ((with_reducible refine ev_lss ?_ ?_) <;> intro h <;> try (exfalso; omega)) | ((with_reducible refine ev_add ?_ ?_); · omega) | ((with_reducible refine ev_quo ?_ ?_ ?_); (· omega); (· omega); intro x hx hx0 hx1) | ((with_reducible refine ev_rem ?_ ?_); (· omega); intro x hx hx0 hx1) | refine ev_bd rfl ?_ | refine ev_bd0 rfl ?_) | ((with_reducible refine eC ?_); first | fail) | ((with_reducible refine eV ?_); first | ( ((with_reducible refine ev_conv_u8 ?_ ?_ ?_ ?_); (focus rfl); (focus rfl); (focus omega))) | ( refine ev_byte1 rfl rfl rfl rfl ?_) | ((with_reducible refine ev_conv64 ?_ ?_ ?_ ?_); (· rfl); (· rfl); · omega) | refine ev_bd rfl ?_ | refine ev_bd0 rfl ?_) | ((with_reducible refine eK ?_); first | (with_reducible first | refine ev_ct ?_ | refine ev_cf ?_) | ((with_reducible refine ev_cond ?_ ?_) <;> intro h)) | ((with_reducible refine eD ?_); first | refine ev_bd rfl ?_ | refine ev_bd0 rfl ?_) | refine ev_ret rfl ?_)
  all_goals exact ⟨rfl, rfl⟩
theorem s_l1Name (name ver : Int) (h : 1 ≤ name ∧ name ≤ 4) (hv : 0 ≤ ver ∧ ver < 10) : Ex (fun m => callF prg m 32 [iI name, iI ver] []) (sS [bt (96 + name), bt (48 + ver)]) [] := by
  refine ev_is.1 ?_
  (refine U32 (nl := 0) rfl ?_; unfold B32)
  repeat' (first | ((with_reducible refine eB ?_); first | ((with_reducible first | refine ev_add ?_ ?_ | refine ev_sub ?_ ?_); · omega) | ( ((with_reducible refine ev_cat ?_ ?_); (focus simp))) | refine ev_bd rfl ?_ | refine ev_bd0 rfl ?_) | ((with_reducible refine eC ?_); first | ((refine ev_call (s_l6Dec _ hv) rfl rfl ?_ rfl ?_); (focus first | exact .inl rfl | exact .inr rfl | (refine .inr ?_; simp [flagC, ownF, hasSl3, hasSl1, SO.hasSl, List.all_map, flatSV, SV.cells, Function.comp_def]; done)))) | ((with_reducible refine eV ?_); first | ( ((with_reducible refine ev_conv_u8 ?_ ?_ ?_ ?_); (focus rfl); (focus rfl); (focus omega))) | ( refine ev_byte1 rfl rfl rfl rfl ?_) | ((with_reducible refine ev_conv64 ?_ ?_ ?_ ?_); (· rfl); (· rfl); · omega) | refine ev_bd rfl ?_ | refine ev_bd0 rfl ?_) | ((with_reducible refine eD ?_); first | refine ev_bd rfl ?_ | refine ev_bd0 rfl ?_) | (with_reducible refine ev_bothI ?_ ?_) | refine ev_ret rfl ?_)
  all_goals exact ⟨by show sS _ = sS _; simp [bt, show (97 : Int) + name - 1 = 96 + name by omega], rfl⟩
def fileTx (f : TFile) : List UInt8 := [32, bt (48 + f.path), 58, bt (48 + f.data)]
def depTx (d : TDep) : List UInt8 := [32, bt (96 + d.name), bt (48 + d.least)]
def pkgTx (p : TPkg) : List UInt8 := [bt (96 + p.name), bt (48 + p.ver)] ++ p.files.flatMap fileTx ++ p.deps.flatMap depTx
def pkgText (p : TPkg) : List UInt8 := if pkgOk p = true then pkgTx p else []
theorem flat_take {α : Type} [Inhabited α] (f : α → List UInt8) {l : List α} {i : Nat} (hi : i < l.length) : (l.take (i + 1)).flatMap f = (l.take i).flatMap f ++ f (nth l i) := by
  have : l.take (i + 1) = l.take i ++ [nth l i] := by rw [List.take_add_one, get_nth hi]; rfl
  rw [this, List.flatMap_append]; simp
theorem flat_len {α : Type} (f : α → List UInt8) (k : Nat) (hf : ∀ x, (f x).length = k) : ∀ l : List α, (l.flatMap f).length = k * l.length
  | [] => by simp
  | x :: xs => by rw [List.flatMap_cons, List.length_append, hf, flat_len f k hf xs, List.length_cons]; rw [Nat.mul_add, Nat.mul_one, Nat.add_comm]
theorem s_PkgText_L9 (p : TPkg) (hp : pkgOk p = true) : ∀ i, i ≤ p.deps.length → ∀ (t : List UInt8) (k : Int) (c : Nat), k = i → t = [bt (96 + p.name), bt (48 + p.ver)] ++ p.files.flatMap fileTx ++ (p.deps.take i).flatMap depTx →
    Ev (fun n => L16_9 (callF prg n) (n + 1) 0 (n + 1 - c) (.ptr 0 0) (sS t) (iI k) [.box [iI p.name, iI p.ver, .sl 2 (p.files.map eFile), .sl 2 (p.deps.map eDep)]]) (Is (sS (pkgTx p)) []) := by
  obtain ⟨hn, hv, hf, hd⟩ := pkgOk_iff.1 hp
  simp only [filesOk, depsOk, Bool.and_eq_true, decide_eq_true_eq] at hf hd
  have hda : ∀ i, i < p.deps.length → depAt p.name p.deps i := of_decide_eq_true hd.2
  refine up_ind ?_
  intro i hi ih t k c hk ht
  subst hk
  have h1 := flat_len fileTx 4 (fun x => rfl) p.files
  have h2 := flat_len depTx 3 (fun x => rfl) (p.deps.take i)
  have h3 : (p.deps.take i).length ≤ 2 := by rw [List.length_take]; omega
  have htl : t.length ≤ 100 := by rw [ht]; simp only [List.length_append, h1, h2, List.length_cons, List.length_nil]; omega
  have hdi := hda i
  (refine UL16_9 ?_; unfold LB16_9)
  repeat' (first | ((with_reducible refine eB ?_); first | ((with_reducible refine ev_lss ?_ ?_) <;> intro h <;> try (exfalso; omega)) | ((with_reducible refine ev_add ?_ ?_); · omega) | ( ((with_reducible refine ev_cat ?_ ?_); (focus (simp only [List.length_append, List.length_cons, List.length_nil]; omega)))) | refine ev_bd rfl ?_ | refine ev_bd0 rfl ?_) | ((with_reducible refine eL ?_); first | ((with_reducible refine ev_lenm ?_ ?_); · rfl) | refine ev_lenom rfl rfl ?_ | refine ev_lenoc rfl rfl rfl ?_ | refine ev_lenc rfl rfl ?_ | refine ev_leno rfl rfl ?_ | refine ev_slen rfl ?_ | refine ev_bd rfl ?_ | refine ev_bd0 rfl ?_) | ((with_reducible refine eI ?_); first | ((with_reducible refine ev_idx ?_ ?_ ?_); (· rfl); · omega) | (refine ev_idxo rfl rfl ?_ ?_; (· first | omega | (simp only [List.length_cons, List.length_nil, List.length_map, List.length_append]; omega))) | refine ev_bd rfl ?_ | refine ev_bd0 rfl ?_) | ((with_reducible refine eC ?_); first | ((refine ev_call (s_l1Name _ _ (by have := hdi (by omega); unfold depAt at this; simp only [Int.toNat_natCast]; omega) (by have := hdi (by omega); unfold depAt at this; simp only [Int.toNat_natCast]; omega)) rfl rfl ?_ rfl ?_); (focus first | exact .inl rfl | exact .inr rfl | (refine .inr ?_; simp [flagC, ownF, hasSl3, hasSl1, SO.hasSl, List.all_map, flatSV, SV.cells, Function.comp_def]; done)))) | ((with_reducible refine eK ?_); first | (with_reducible first | refine ev_ct ?_ | refine ev_cf ?_) | ((with_reducible refine ev_cond ?_ ?_) <;> intro h)) | ((with_reducible refine eO ?_); first | refine ev_bd rfl ?_ | (refine ev_bdB rfl ?_ ?_ <;> intro h <;> try (exfalso; simp_all; done)) | refine ev_bd0 rfl ?_) | ((with_reducible refine eD ?_); first | refine ev_bd rfl ?_ | refine ev_bd0 rfl ?_) | ((with_reducible refine ih ?_ _ _ _ ?_ ?_) <;> (first | omega | assumption | ((rw [ht, flat_take _ (by omega)]; simp [depTx])) | (simp only [*, List.map_append, List.length_append, List.length_cons, List.length_nil, List.map_cons, List.map_nil]; done) | (simp_all; done) | (simp_all; omega))) | refine ev_ret rfl ?_)
  exact ⟨by rw [ht, List.take_of_length_le (by omega)]; rfl, rfl⟩
theorem s_PkgText_L5 (p : TPkg) (hp : pkgOk p = true) : ∀ i, i ≤ p.files.length → ∀ (t : List UInt8) (k : Int) (c : Nat), k = i → t = [bt (96 + p.name), bt (48 + p.ver)] ++ (p.files.take i).flatMap fileTx →
    Ev (fun n => L16_5 (callF prg n) (n + 1) 0 (n + 1 - c) (.ptr 0 0) (sS t) (iI k) [.box [iI p.name, iI p.ver, .sl 2 (p.files.map eFile), .sl 2 (p.deps.map eDep)]]) (Is (sS (pkgTx p)) []) := by
  obtain ⟨hn, hv, hf, hd⟩ := pkgOk_iff.1 hp
  simp only [filesOk, depsOk, Bool.and_eq_true, decide_eq_true_eq] at hf hd
  have hfa : ∀ i, i < p.files.length → fileAt p.files i := of_decide_eq_true hf.2
  refine up_ind ?_
  intro i hi ih t k c hk ht
  subst hk
  have h1 := flat_len fileTx 4 (fun x => rfl) (p.files.take i)
  have h3 : (p.files.take i).length ≤ 2 := by rw [List.length_take]; omega
  have htl : t.length ≤ 100 := by rw [ht]; simp only [List.length_append, h1, List.length_cons, List.length_nil]; omega
  have hfi := hfa i
  (refine UL16_5 ?_; unfold LB16_5)
  repeat' (first | ((with_reducible refine eB ?_); first | ((with_reducible refine ev_lss ?_ ?_) <;> intro h <;> try (exfalso; omega)) | ((with_reducible refine ev_add ?_ ?_); · omega) | ( ((with_reducible refine ev_cat ?_ ?_); (focus (simp only [List.length_append, List.length_cons, List.length_nil]; omega)))) | refine ev_bd rfl ?_ | refine ev_bd0 rfl ?_) | ((with_reducible refine eL ?_); first | ((with_reducible refine ev_lenm ?_ ?_); · rfl) | refine ev_lenom rfl rfl ?_ | refine ev_lenoc rfl rfl rfl ?_ | refine ev_lenc rfl rfl ?_ | refine ev_leno rfl rfl ?_ | refine ev_slen rfl ?_ | refine ev_bd rfl ?_ | refine ev_bd0 rfl ?_) | ((with_reducible refine eI ?_); first | ((with_reducible refine ev_idx ?_ ?_ ?_); (· rfl); · omega) | (refine ev_idxo rfl rfl ?_ ?_; (· first | omega | (simp only [List.length_cons, List.length_nil, List.length_map, List.length_append]; omega))) | refine ev_bd rfl ?_ | refine ev_bd0 rfl ?_) | ((with_reducible refine eC ?_); first | ((refine ev_call (s_l6Dec _ (by have := hfi (by omega); unfold fileAt at this; simp only [Int.toNat_natCast]; omega)) rfl rfl ?_ rfl ?_); (focus first | exact .inl rfl | exact .inr rfl | (refine .inr ?_; simp [flagC, ownF, hasSl3, hasSl1, SO.hasSl, List.all_map, flatSV, SV.cells, Function.comp_def]; done)))) | ((with_reducible refine eK ?_); first | (with_reducible first | refine ev_ct ?_ | refine ev_cf ?_) | ((with_reducible refine ev_cond ?_ ?_) <;> intro h)) | ((with_reducible refine eO ?_); first | refine ev_bd rfl ?_ | (refine ev_bdB rfl ?_ ?_ <;> intro h <;> try (exfalso; simp_all; done)) | refine ev_bd0 rfl ?_) | ((with_reducible refine eD ?_); first | refine ev_bd rfl ?_ | refine ev_bd0 rfl ?_) | ((with_reducible refine ev_dchk ?_ ?_); · intro _; rfl) | (with_reducible refine ev_bothI ?_ ?_) | ((with_reducible refine UJ16_6 ?_); (unfold JB16_6)) | ((with_reducible refine ih ?_ _ _ _ ?_ ?_) <;> (first | omega | assumption | ((rw [ht, flat_take _ (by omega)]; simp [fileTx])) | (simp only [*, List.map_append, List.length_append, List.length_cons, List.length_nil, List.map_cons, List.map_nil]; done) | (simp_all; done) | (simp_all; omega))) | ( exact s_PkgText_L9 p hp 0 (by omega) _ 0 0 rfl (by rw [ht, List.take_of_length_le (by omega)]; simp)) | refine ev_ret rfl ?_)
theorem s_PkgTextS (name ver : Int) (F : List TFile) (D : List TDep) (hF : F.length ≤ 2000000) (hD : D.length ≤ 2000000) : Ex (fun m => callF prg m 16 [.ag [iI name, iI ver, .sl 2 (F.map eFile), .sl 2 (D.map eDep)]] []) (sS (pkgText ⟨name, ver, F, D⟩)) [] := by
  refine ev_is.1 ?_
  (refine U16 (nl := 0) rfl ?_; unfold B16)
  repeat' (first | ((with_reducible refine eC ?_); first | ((refine ev_callB (s_PkgOkS _ _ _ _ hF hD) rfl rfl ?_ rfl rfl ?_ ?_); (focus first | exact .inl rfl | exact .inr rfl | (refine .inr ?_; simp [flagC, ownF, hasSl3, hasSl1, SO.hasSl, List.all_map, flatSV, SV.cells, Function.comp_def]; done)); (all_goals (intro h)); (all_goals (try (exfalso; simp_all; done)))) | ((refine ev_call (s_l1Name _ _ (by have := (pkgOk_iff.1 (by assumption : pkgOk ⟨name, ver, F, D⟩ = true)).1; exact this) (by have := (pkgOk_iff.1 (by assumption : pkgOk ⟨name, ver, F, D⟩ = true)).2.1; dsimp only at this; omega)) rfl rfl ?_ rfl ?_); (focus first | exact .inl rfl | exact .inr rfl | (refine .inr ?_; simp [flagC, ownF, hasSl3, hasSl1, SO.hasSl, List.all_map, flatSV, SV.cells, Function.comp_def]; done)))) | ((with_reducible refine eK ?_); first | (with_reducible first | refine ev_ct ?_ | refine ev_cf ?_) | ((with_reducible refine ev_cond ?_ ?_) <;> intro h)) | ((with_reducible refine eO ?_); first | refine ev_bd rfl ?_ | (refine ev_bdB rfl ?_ ?_ <;> intro h <;> try (exfalso; simp_all; done)) | refine ev_bd0 rfl ?_) | ((with_reducible refine eD ?_); first | refine ev_bd rfl ?_ | refine ev_bd0 rfl ?_) | ( (rw [show pkgText ⟨name, ver, F, D⟩ = pkgTx ⟨name, ver, F, D⟩ from if_pos (by assumption)]; exact s_PkgText_L5 ⟨name, ver, F, D⟩ (by assumption) 0 (by omega) _ 0 0 rfl (by simp))) | refine ev_ret rfl ?_)
  exact ⟨by simp [pkgText, *], rfl⟩
theorem pkgText_len (p : TPkg) : (pkgText p).length ≤ 16 := by
  unfold pkgText
  split
  · rename_i hp
    obtain ⟨hn, hv, hf, hd⟩ := pkgOk_iff.1 hp
    simp only [filesOk, depsOk, Bool.and_eq_true, decide_eq_true_eq] at hf hd
    have h1 : ∀ l : List TFile, (l.flatMap fileTx).length = 4 * l.length := fun l => by
      induction l with
      | nil => rfl
      | cons x xs ih => rw [List.flatMap_cons, List.length_append, ih, List.length_cons]; show 4 + _ = _; omega
    have h2 : ∀ l : List TDep, (l.flatMap depTx).length = 3 * l.length := fun l => by
      induction l with
      | nil => rfl
      | cons x xs ih => rw [List.flatMap_cons, List.length_append, ih, List.length_cons]; show 3 + _ = _; omega
    unfold pkgTx
    simp only [List.length_append, h1, h2, List.length_cons, List.length_nil]
    omega
  · simp
def sumStep (s : Int) (b : UInt8) : Int := (31 * s + (b.toNat : Int) + 1) % 9973
def sumOf (l : List UInt8) : Int := l.foldl sumStep 7
theorem sumStep_rng (s : Int) (b : UInt8) : 0 ≤ sumStep s b ∧ sumStep s b ≤ 9972 := by unfold sumStep; omega
theorem sumOf_rng (l : List UInt8) : 0 ≤ sumOf l ∧ sumOf l ≤ 9972 := by
  have key : ∀ (l : List UInt8) (s : Int), 0 ≤ s ∧ s ≤ 9972 → 0 ≤ l.foldl sumStep s ∧ l.foldl sumStep s ≤ 9972 := by
    intro l
    induction l with
    | nil => intro s h; exact h
    | cons x xs ih => intro s h; exact ih _ (sumStep_rng s x)
  exact key l 7 (by omega)
theorem sumOf_step {l : List UInt8} {i : Nat} (hi : i < l.length) : sumOf (l.take (i + 1)) = sumStep (sumOf (l.take i)) (nth l i) := by
  have : l.take (i + 1) = l.take i ++ [nth l i] := by rw [List.take_add_one, get_nth hi]; rfl
  rw [this]; simp [sumOf]
theorem s_SumOfS_L (l : List UInt8) (hl : l.length ≤ 2000000) : ∀ i, i ≤ l.length → ∀ (s k : Int) (c : Nat), k = i → s = sumOf (l.take i) →
    Ev (fun n => L15_3 (callF prg n) (n + 1) 0 (n + 1 - c) (sS l) (iI s) (iI k) []) (Is (iI (sumOf l)) []) := by
  refine up_ind ?_
  intro i hi ih s k c hk hs
  subst hk
  have hr := sumOf_rng (l.take i)
  have hb : (nth l i).toNat < 256 := (nth l i).toNat_lt
  (refine UL15_3 ?_; unfold LB15_3)
  repeat' (first | ((with_reducible refine eB ?_); first | ((with_reducible refine ev_lss ?_ ?_) <;> intro h <;> try (exfalso; omega)) | ((with_reducible first | refine ev_add ?_ ?_ | refine ev_mul ?_ ?_); · omega) | ((with_reducible refine ev_rem ?_ ?_); (· omega); intro x hx hx0 hx1) | refine ev_bd rfl ?_ | refine ev_bd0 rfl ?_) | ((with_reducible refine eL ?_); first | ((with_reducible refine ev_lenm ?_ ?_); · rfl) | refine ev_lenom rfl rfl ?_ | refine ev_lenoc rfl rfl rfl ?_ | refine ev_lenc rfl rfl ?_ | refine ev_leno rfl rfl ?_ | refine ev_slen rfl ?_ | refine ev_bd rfl ?_ | refine ev_bd0 rfl ?_) | ((with_reducible refine eV ?_); first | ( ((with_reducible refine ev_conv8 ?_ ?_ ?_ ?_); (focus rfl); (focus rfl); (focus (simp only [Int.toNat_natCast]; omega)); intro hy0 hy1)) | ((with_reducible refine ev_conv64 ?_ ?_ ?_ ?_); (· rfl); (· rfl); · omega) | refine ev_bd rfl ?_ | refine ev_bd0 rfl ?_) | ((with_reducible refine eK ?_); first | (with_reducible first | refine ev_ct ?_ | refine ev_cf ?_) | ((with_reducible refine ev_cond ?_ ?_) <;> intro h)) | ((with_reducible refine eD ?_); first | refine ev_bd rfl ?_ | refine ev_bd0 rfl ?_ | ( (refine ev_sidx rfl ?_ ?_; (focus omega)))) | ((with_reducible refine ih ?_ _ _ _ ?_ ?_) <;> (first | omega | assumption | ((rw [sumOf_step (by omega), ← hs, hx, Int.tmod_eq_emod_of_nonneg (by omega)]; rfl)) | (simp only [*, List.map_append, List.length_append, List.length_cons, List.length_nil, List.map_cons, List.map_nil]; done) | (simp_all; done) | (simp_all; omega))) | refine ev_ret rfl ?_)
  exact ⟨by rw [hs, List.take_of_length_le (by omega)], rfl⟩
theorem s_SumOfS (l : List UInt8) (hl : l.length ≤ 2000000) : Ex (fun m => callF prg m 15 [sS l] []) (iI (sumOf l)) [] := by
  refine ev_is.1 ?_
  (refine U15 (nl := 0) rfl ?_; unfold B15)
  exact s_SumOfS_L l hl 0 (by omega) _ 0 0 rfl rfl
def pkgAt (s : List TPkg) (i : Nat) : Prop := pkgOk (nth s i) = true ∧ (0 < i → pless (nth s (i - 1)) (nth s i))
instance (s : List TPkg) (i : Nat) : Decidable (pkgAt s i) := by unfold pkgAt; exact inferInstance
def storeOk (s : List TPkg) : Bool := decide (∀ i, i < s.length → pkgAt s i)
def PL (s : List TPkg) : Prop := ∀ i, (nth s i).files.length ≤ 2000000 ∧ (nth s i).deps.length ≤ 2000000
theorem s_l3Pkgs_L (s : List TPkg) (hs : s.length ≤ 2000000) (hp0 : PL s) : ∀ i, i ≤ s.length → (∀ j, j < i → pkgAt s j) → ∀ (k : Int) (c : Nat), k = i →
    Ev (fun n => L14_2 (callF prg n) (n + 1) 0 (n + 1 - c) (.sl 4 (s.map ePkg)) (iI k) []) (Is (bB (storeOk s)) []) := by
  refine up_ind ?_
  intro i hi ih hp k c hk
  subst hk
  (refine UL14_2 ?_; unfold LB14_2)
  repeat' (first | ((with_reducible refine eG ?_); first | (with_reducible first | refine ev_gtt ?_ | refine ev_gff ?_ | refine ev_gtf ?_ | refine ev_gft ?_ | refine ev_gu ?_) | refine ev_bd rfl ?_ | refine ev_bd0 rfl ?_ | ((with_reducible refine ev_gB ?_ ?_) <;> intro h)) | ((with_reducible refine eB ?_); first | ((with_reducible first | refine ev_lss ?_ ?_ | refine ev_gtr ?_ ?_) <;> intro h <;> try (exfalso; omega)) | ((with_reducible first | refine ev_add ?_ ?_ | refine ev_sub ?_ ?_); · omega) | refine ev_bd rfl ?_ | refine ev_bd0 rfl ?_) | ((with_reducible refine eL ?_); first | ((with_reducible refine ev_lenm ?_ ?_); · rfl) | refine ev_lenom rfl rfl ?_ | refine ev_lenoc rfl rfl rfl ?_ | refine ev_lenc rfl rfl ?_ | refine ev_leno rfl rfl ?_ | refine ev_slen rfl ?_ | refine ev_bd rfl ?_ | refine ev_bd0 rfl ?_) | ((with_reducible refine eI ?_); first | ((with_reducible refine ev_idx ?_ ?_ ?_); (· rfl); · omega) | (refine ev_idxo rfl rfl ?_ ?_; (· first | omega | (simp only [List.length_cons, List.length_nil, List.length_map, List.length_append]; omega))) | refine ev_bd rfl ?_ | refine ev_bd0 rfl ?_) | ((with_reducible refine eC ?_); first | ((refine ev_callB (s_PkgOkS _ _ _ _ (hp0 _).1 (hp0 _).2) rfl rfl ?_ rfl rfl ?_ ?_); (focus first | exact .inl rfl | exact .inr rfl | (refine .inr ?_; simp [flagC, ownF, hasSl3, hasSl1, SO.hasSl, List.all_map, flatSV, SV.cells, Function.comp_def]; done)); (all_goals (intro h)); (all_goals (try (exfalso; simp_all; done)))) | ((refine ev_callD (s_l3Less ..) rfl rfl ?_ rfl rfl ?_ ?_); (focus first | exact .inl rfl | exact .inr rfl | (refine .inr ?_; simp [flagC, ownF, hasSl3, hasSl1, SO.hasSl, List.all_map, flatSV, SV.cells, Function.comp_def]; done)); (all_goals (intro h)); (all_goals (try (exfalso; first | omega | exact h rfl | exact h ⟨rfl, rfl, rfl⟩))))) | ((with_reducible refine eK ?_); first | (with_reducible first | refine ev_ct ?_ | refine ev_cf ?_) | ((with_reducible refine ev_cond ?_ ?_) <;> intro h)) | ((with_reducible refine eO ?_); first | refine ev_bd rfl ?_ | (refine ev_bdB rfl ?_ ?_ <;> intro h <;> try (exfalso; simp_all; done)) | refine ev_bd0 rfl ?_) | ((with_reducible refine eD ?_); first | refine ev_bd rfl ?_ | refine ev_bd0 rfl ?_ | ((with_reducible refine ev_pickB ?_ ?_) <;> intro h)) | ((with_reducible refine ih ?_ (all_step hp ?_) _ _ ?_) <;> (first | omega | assumption | ((refine ⟨by assumption, fun hi0 => ?_⟩; unfold pless; (try simp only [Int.toNat_natCast, tn_sub1, tn_add1] at *); omega)) | (simp only [*, List.map_append, List.length_append, List.length_cons, List.length_nil, List.map_cons, List.map_nil]; done) | (simp_all; done) | (simp_all; omega))) | refine ev_ret rfl ?_)
  all_goals first
    | exact ⟨congrArg bB (Eq.symm (all_true hp (by omega))), rfl⟩
    | (refine ⟨congrArg bB (Eq.symm (all_false (i := i) (by omega) ?_)), rfl⟩; intro hh; have h1 := hh.2 (by omega); unfold pless at h1; (try simp only [Int.toNat_natCast, tn_sub1, tn_add1] at *); omega)
    | (refine ⟨congrArg bB (Eq.symm (all_false (i := i) (by omega) ?_)), rfl⟩; intro hh; have h1 := hh.1; simp only [Int.toNat_natCast] at h; simp_all; done)
    | trace_state
theorem s_l3Pkgs (s : List TPkg) (hs : s.length ≤ 2000000) (hp0 : PL s) : Ex (fun m => callF prg m 14 [.sl 4 (s.map ePkg)] []) (bB (storeOk s)) [] := by
  refine ev_is.1 ?_
  (refine U14 (nl := 0) rfl ?_; unfold B14)
  exact s_l3Pkgs_L s hs hp0 0 (by omega) (fun j hj => by omega) 0 0 rfl
def metaOf (p : TPkg) : TMeta := ⟨p.name, p.ver, sumOf (pkgText p)⟩
def zIndex : TIndex := ⟨0, 0, []⟩
def indexOf (num til : Int) (s : List TPkg) : TIndex × Bool := if storeOk s = true ∧ indexOk num til (s.map metaOf) = true then (⟨num, til, s.map metaOf⟩, true) else (zIndex, false)
abbrev rIndex (x : TIndex) : SV := .ag [iI x.num, iI x.til, .osl 0]
theorem s_IndexOfS_L (num til : Int) (s : List TPkg) (hs : s.length ≤ 2000000) (hp0 : PL s) (hok : storeOk s = true) : ∀ i, i ≤ s.length → ∀ (L : List SV) (k : Int) (c : Nat), k = i → L = ((s.take i).map metaOf).map eMeta →
    Ev (fun n => G5_5 (callF prg n) (n + 1) 0 (n + 1 - c) [.sl 4 (s.map ePkg), .ptr 0 0, .ptr 1 0, iI k] [.box [iI 0, iI 0, .osl 2], .box [iI num, iI til, .osl 3], .arr false 3 [], .arr false 3 L])
      (Is (.tup [rIndex (indexOf num til s).1, bB (indexOf num til s).2]) [.arr false 3 ((indexOf num til s).1.metas.map eMeta)]) := by
  refine up_ind ?_
  intro i hi ih L k c hk hL
  subst hk
  have hLl : L.length ≤ 2000000 := by rw [hL]; simp only [List.length_map, List.length_take]; omega
  subst hL
  (refine UG5_5 _ ?_; unfold GB5_5)
  repeat' (first | ((with_reducible refine eB ?_); first | ((with_reducible refine ev_lss ?_ ?_) <;> intro h <;> try (exfalso; omega)) | ((with_reducible refine ev_add ?_ ?_); · omega) | refine ev_bd rfl ?_ | refine ev_bd0 rfl ?_) | ((with_reducible refine eL ?_); first | ((with_reducible refine ev_lenm ?_ ?_); · rfl) | refine ev_lenom rfl rfl ?_ | refine ev_lenoc rfl rfl rfl ?_ | refine ev_lenc rfl rfl ?_ | refine ev_leno rfl rfl ?_ | refine ev_slen rfl ?_ | refine ev_bd rfl ?_ | refine ev_bd0 rfl ?_) | ((with_reducible refine eI ?_); first | ((with_reducible refine ev_idx ?_ ?_ ?_); (· rfl); · omega) | (refine ev_idxo rfl rfl ?_ ?_; (· first | omega | (simp only [List.length_cons, List.length_nil, List.length_map, List.length_append]; omega))) | refine ev_bd rfl ?_ | refine ev_bd0 rfl ?_) | ((with_reducible refine eC ?_); first | ((refine ev_call (s_PkgTextS _ _ _ _ (hp0 _).1 (hp0 _).2) rfl rfl ?_ rfl ?_); (focus first | exact .inl rfl | exact .inr rfl | (refine .inr ?_; simp [flagC, ownF, hasSl3, hasSl1, SO.hasSl, List.all_map, flatSV, SV.cells, Function.comp_def]; done))) | ((refine ev_call (s_SumOfS _ (Nat.le_trans (pkgText_len _) (by decide))) rfl rfl ?_ rfl ?_); (focus first | exact .inl rfl | exact .inr rfl | (refine .inr ?_; simp [flagC, ownF, hasSl3, hasSl1, SO.hasSl, List.all_map, flatSV, SV.cells, Function.comp_def]; done))) | ((refine ev_callB (s_IndexOkS _ _ _ (by simp only [List.length_map, List.length_take]; omega)) rfl rfl ?_ rfl rfl ?_ ?_); (focus first | exact .inl rfl | exact .inr rfl | (refine .inr ?_; simp [flagC, ownF, hasSl3, hasSl1, SO.hasSl, List.all_map, flatSV, SV.cells, Function.comp_def]; done)); (all_goals (intro h)); (all_goals (try (exfalso; simp_all; done))))) | ((with_reducible refine eA ?_); first | (refine ev_app rfl rfl rfl rfl rfl ?_ ?_; · first | decide | (simp only [List.length_append, List.length_cons, List.length_nil, List.length_map, List.length_take, List.length_drop]; omega))) | ((with_reducible refine eK ?_); first | (with_reducible first | refine ev_ct ?_ | refine ev_cf ?_) | ((with_reducible refine ev_cond ?_ ?_) <;> intro h)) | ((with_reducible refine eO ?_); first | refine ev_bd rfl ?_ | (refine ev_bdB rfl ?_ ?_ <;> intro h <;> try (exfalso; simp_all; done)) | refine ev_bd0 rfl ?_ | (refine ev_ldz rfl rfl rfl ?_ ?_ ?_; (· simp); (· first | omega | (simp only [List.length_cons, List.length_nil, List.length_map, List.length_append]; omega)); intro w)) | ((with_reducible refine eD ?_); first | refine ev_bd rfl ?_ | refine ev_bd0 rfl ?_) | ((with_reducible refine ev_dchk ?_ ?_); · intro _; rfl) | ((with_reducible refine eH ?_); first | refine ev_gcB rfl ?_) | (with_reducible refine ev_bothI ?_ ?_) | ((with_reducible refine UJ5_6 ?_); (unfold JB5_6)) | (with_reducible first | refine UL5_5 ?_ | refine VL5_5 ?_) | ((with_reducible refine ih ?_ _ _ _ ?_ ?_) <;> (first | omega | assumption | ((rw [take_nth (by omega)]; simp only [List.map_append, List.map_cons, List.map_nil]; rfl)) | (simp only [*, List.map_append, List.length_append, List.length_cons, List.length_nil, List.map_cons, List.map_nil]; done) | (simp_all; done) | (simp_all; omega))) | refine ev_ret rfl ?_)
  · rw [List.take_of_length_le (by omega)] at h ⊢
    exact ⟨by simp [indexOf, hok, h], by simp [indexOf, hok, h]⟩
  · rw [List.take_of_length_le (by omega)] at h
    exact ⟨by simp [indexOf, hok, h, zIndex], by simp [indexOf, hok, h, zIndex]⟩
theorem s_IndexOfS (num til : Int) (s : List TPkg) (hs : s.length ≤ 2000000) (hp0 : PL s) : Ex (fun m => callF prg m 5 [iI num, iI til, .sl 4 (s.map ePkg)] []) (.tup [rIndex (indexOf num til s).1, bB (indexOf num til s).2]) [.arr false 3 ((indexOf num til s).1.metas.map eMeta)] := by
  refine ev_is.1 ?_
  (refine U5 (nl := 0) rfl ?_; unfold B5)
  repeat' (first | ((with_reducible refine eC ?_); first | ((refine ev_callB (s_l3Pkgs _ hs hp0) rfl rfl ?_ rfl rfl ?_ ?_); (focus first | exact .inl rfl | exact .inr rfl | (refine .inr ?_; simp [flagC, ownF, hasSl3, hasSl1, SO.hasSl, List.all_map, flatSV, SV.cells, Function.comp_def]; done)); (all_goals (intro h)); (all_goals (try (exfalso; simp_all; done))))) | ((with_reducible refine eK ?_); first | (with_reducible first | refine ev_ct ?_ | refine ev_cf ?_) | ((with_reducible refine ev_cond ?_ ?_) <;> intro h)) | ((with_reducible refine eO ?_); first | refine ev_bd rfl ?_ | (refine ev_bdB rfl ?_ ?_ <;> intro h <;> try (exfalso; simp_all; done)) | refine ev_bd0 rfl ?_ | (refine ev_ldz rfl rfl rfl ?_ ?_ ?_; (· simp); (· first | omega | (simp only [List.length_cons, List.length_nil, List.length_map, List.length_append]; omega)); intro w)) | ((with_reducible refine eD ?_); first | refine ev_bd rfl ?_ | refine ev_bd0 rfl ?_) | ((with_reducible refine eH ?_); first | refine ev_gcB rfl ?_) | (with_reducible first | refine UL5_5 ?_ | refine VL5_5 ?_) | ( exact s_IndexOfS_L num til s hs hp0 (by assumption) 0 (by omega) _ 0 _ rfl (by simp)) | refine ev_ret rfl ?_)
  exact ⟨by simp [indexOf, *, zIndex], by simp [indexOf, *, zIndex]⟩
end Go.Proofs.YtebaiioejagfoaaDoor

/- The exact laws' functions over packages: making and marking, walked. -/
set_option linter.unusedVariables false
set_option linter.unusedSimpArgs false
namespace Go.Proofs.YtebaiioejagfoaaDoor
open Go Go.Shelf Go.RowKit Go.Lib Go.Proofs
set_option maxHeartbeats 1000000
set_option maxRecDepth 100000
theorem wpList_ld {P : Program} {ops : Array Oper} {rest : List Oper} {o : Oper} {a : Act} {w : World} {Q : Exit → Act → World → Prop} (hgd : o.guard = none) (ty : TypeId) (x : Operand) (ho : o.op = .load ty x)
    (p v : Value) (hx : a.eval x = p) (hr : (Instr.loadAt ty p).run P w = .ok v w) (h : wpList P ops Q rest (a.put o.dst v) w) : wpList P ops Q (o :: rest) a w :=
  wpList_plain hgd fun _ hK => by
    unfold Oper.wp execOp
    simp only [ho, hx, Sem.run_bind, hr, Result.andThen_ok, Sem.run_pure]
    exact hK _ _ h
theorem wpList_st {P : Program} {ops : Array Oper} {rest : List Oper} {o : Oper} {a : Act} {w w' : World} {Q : Exit → Act → World → Prop} (hgd : o.guard = none) (ty : TypeId) (x y : Operand) (ho : o.op = .store ty x y)
    (p v : Value) (hx : a.eval x = p) (hy : a.eval y = v) (hr : (Instr.storeAt ty p v).run P w = .ok () w') (h : wpList P ops Q rest (a.put o.dst undef) w') : wpList P ops Q (o :: rest) a w :=
  wpList_plain hgd fun _ hK => by
    unfold Oper.wp execOp
    simp only [ho, hx, hy, Sem.run_bind, hr, Result.andThen_ok, Sem.run_pure]
    exact hK _ _ h
theorem mark_walk {I : Nat → Int → World → Prop} {n c b : Nat} {k0 : Int} {w : World} (hn : n ≤ 2000000) (h0 : I 0 k0 w) (hk : ∀ i k wr, I i k wr → 0 ≤ k ∧ k ≤ 4611686018427387904)
    (step : ∀ i k wr, i < n → I i k wr → ∃ v0 v1 s1, wr.cell? ⟨b, i * 4, none⟩ = some v0 ∧ wr.frozen? ⟨b, i * 4, none⟩ = false ∧
      (wr.setCell ⟨b, i * 4, none⟩ (.int .i64 k)).cell? ⟨b, i * 4 + 1, none⟩ = some v1 ∧ (wr.setCell ⟨b, i * 4, none⟩ (.int .i64 k)).frozen? ⟨b, i * 4 + 1, none⟩ = false ∧
      ((wr.setCell ⟨b, i * 4, none⟩ (.int .i64 k)).setCell ⟨b, i * 4 + 1, none⟩ (.int .i64 (k + 1))).cell? ⟨b, i * 4 + 2, none⟩ = some s1 ∧
        Calls Tryd.prog 24 #[s1, .int .i64 (k + 1 + 1)] ((wr.setCell ⟨b, i * 4, none⟩ (.int .i64 k)).setCell ⟨b, i * 4 + 1, none⟩ (.int .i64 (k + 1))) fun e w2 => ∃ k2, e = .returned (.int .i64 k2) ∧
          ∃ s2, w2.cell? ⟨b, i * 4 + 3, none⟩ = some s2 ∧ Calls Tryd.prog 25 #[s2, .int .i64 k2] w2 fun e w3 => ∃ k3, e = .returned (.int .i64 k3) ∧ I (i + 1) k3 w3) :
    Calls Tryd.prog 10 #[.slice (some ⟨b, 0, none⟩) n c, .int .i64 k0] w fun e w' => ∃ k', e = .returned (.int .i64 k') ∧ I n k' w' := by
  have mixed : Tryd.prog.follows .mixedOrders = true := by kernel_rfl
  go_enter Tryd.func10, Tryd.ntmps10
  go_wp2
  go_loopw [1, 5] (fun v i wr => ∃ (j : Nat) (k : Int), j ≤ n ∧ i = .int .i64 j ∧ v = .int .i64 k ∧ I j k wr) (fun _ i _ => n - (RowKit.intOf i).toNat)
  case atStart => exact ⟨0, k0, Nat.zero_le _, rfl, rfl, h0⟩
  case round =>
    obtain ⟨j, k, hj, rfl, rfl, hI⟩ := hrel
    by_cases hjn : j < n
    · obtain ⟨v0, v1, s1, e1, e2, e3, e4, e5, e6⟩ := step j k wr hjn hI
      have hkk := hk j k wr hI
      clear step h0 hk hI
      go_wp2_with (first
        | (go_at_call 24; refine e6.mono ?_; rintro e w2 ⟨k2, rfl, s2, f1, f2⟩)
        | (go_at_call 25; refine f2.mono ?_; rintro e w3 ⟨k3, rfl, f3⟩))
      go_roundw
      case rel => exact ⟨j + 1, k3, by omega, by go_num, rfl, f3⟩
      case measure => simp [RowKit.intOf]; omega
    · go_wp2
      obtain rfl : j = n := by omega
      go_ret
      exact ⟨_, rfl, hI⟩
theorem topk_walk {I : Nat → World → Prop} {n c m ab ao b : Nat} {w w1 : World} (hn : n ≤ 2000000)
    (hmk : (Instr.makeSlice 29 (.int .i64 n) (.int .i64 n)).run Tryd.prog w = .ok (.slice (some ⟨b, 0, none⟩) n m) w1) (h0 : I 0 w1)
    (step : ∀ i wr, i < n → I i wr → ∃ pv, (Instr.loadAt 40 (.pointer (some ⟨ab, ao + i * 4, none⟩))).run Tryd.prog wr = .ok pv wr ∧
        Calls Tryd.prog 18 #[pv] wr fun e w2 => ∃ qv, e = .returned qv ∧ ∃ w3, (Instr.storeAt 45 (.pointer (some ⟨b, i * 4, none⟩)) qv).run Tryd.prog w2 = .ok () w3 ∧ I (i + 1) w3) :
    Calls Tryd.prog 6 #[.slice (some ⟨ab, ao, none⟩) n c] w fun e w' => e = .returned (.slice (some ⟨b, 0, none⟩) n m) ∧ I n w' := by
  have mixed : Tryd.prog.follows .mixedOrders = true := by kernel_rfl
  go_enter Tryd.func6, Tryd.ntmps6
  go_wp2
  go_loopw [4] (fun i wr => ∃ (j : Nat), j ≤ n ∧ i = .int .i64 j ∧ I j wr) (fun i _ => n - (RowKit.intOf i).toNat)
  case atStart => exact ⟨0, Nat.zero_le _, rfl, h0⟩
  case round =>
    obtain ⟨j, hj, rfl, hI⟩ := hrel
    by_cases hjn : j < n
    · obtain ⟨pv, e1, e2⟩ := step j wr hjn hI
      clear step h0 hI
      go_wp2_with (first
        | (refine wpList_ld rfl 40 (.tmp 18) rfl _ pv rfl e1 ?_)
        | (go_at_call 18; refine e2.mono ?_; rintro e w2 ⟨qv, rfl, w3, f1, f2⟩)
        | (refine wpList_st rfl 45 (.tmp 21) (.tmp 20) rfl _ qv rfl rfl f1 ?_))
      go_roundw
      case rel => exact ⟨j + 1, by omega, by go_num, f2⟩
      case measure => simp [RowKit.intOf]; omega
    · go_wp2
      obtain rfl : j = n := by omega
      go_ret
      exact ⟨rfl, hI⟩
end Go.Proofs.YtebaiioejagfoaaDoor
