/- Packages: what is ok; their texts and sums; indexes of them (the reference's functions). -/
import Derived.Test.YtjfegdlgepbjoaaV3
import Derived.Test.YtjfegdlgepbjoaaV6
namespace Go.Proofs.Ytjfegdlgepbjoaa
open Go
set_option linter.unusedVariables false
set_option linter.unusedSimpArgs false
set_option maxHeartbeats 4000000

def fileAt (l : List TFile) (i : Nat) : Prop := (0 ≤ (nth l i).path ∧ (nth l i).path ≤ 5) ∧ (0 ≤ (nth l i).data ∧ (nth l i).data ≤ 9) ∧ (0 < i → (nth l (i - 1)).path < (nth l i).path)
instance (l : List TFile) (i : Nat) : Decidable (fileAt l i) := by unfold fileAt; exact inferInstance
def depAt (name : Int) (l : List TDep) (i : Nat) : Prop := (1 ≤ (nth l i).name ∧ (nth l i).name ≤ 4) ∧ (nth l i).name ≠ name ∧ (1 ≤ (nth l i).least ∧ (nth l i).least ≤ 5) ∧ (0 < i → (nth l (i - 1)).name < (nth l i).name)
instance (name : Int) (l : List TDep) (i : Nat) : Decidable (depAt name l i) := by unfold depAt; exact inferInstance
def filesAt (l : List TFile) : Bool := decide (∀ i, i < l.length → fileAt l i)
def depsAt (name : Int) (l : List TDep) : Bool := decide (∀ i, i < l.length → depAt name l i)
def filesOk (l : List TFile) : Bool := decide (l.length ≤ 2) && filesAt l
def depsOk (name : Int) (l : List TDep) : Bool := decide (l.length ≤ 2) && depsAt name l
def pkgOk (p : TPkg) : Bool := decide (1 ≤ p.name ∧ p.name ≤ 4) && decide (1 ≤ p.ver ∧ p.ver ≤ 5) && filesOk p.files && depsOk p.name p.deps
theorem pkgOk_iff {p : TPkg} : pkgOk p = true ↔ (1 ≤ p.name ∧ p.name ≤ 4) ∧ (1 ≤ p.ver ∧ p.ver ≤ 5) ∧ filesOk p.files = true ∧ depsOk p.name p.deps = true := by
  simp [pkgOk, and_assoc]

theorem s_l1Files_L (l : List TFile) (hl : l.length ≤ 2000000) : ∀ i, i ≤ l.length → (∀ j, j < i → fileAt l j) → ∀ (k : Int) (c : Nat), k = i →
    Ev (fun n => L114_2 (callF prg n) (n + 1) 0 (n + 1 - c) (.sl 2 (l.map eFile)) (iI k) []) (Is (bB (filesOk l)) []) := by
  refine up_ind ?_
  intro i hi ih hp k c hk
  subst hk
  (refine UL114_2 ?_; unfold LB114_2)
  repeat' (first | ((with_reducible refine eG ?_); first | (with_reducible first | refine ev_gtt ?_ | refine ev_gff ?_ | refine ev_gtf ?_ | refine ev_gft ?_ | refine ev_gu ?_) | refine ev_bd rfl ?_ | refine ev_bd0 rfl ?_ | ((with_reducible refine ev_gB ?_ ?_) <;> intro h)) | ((with_reducible refine eB ?_); first | ((with_reducible first | refine ev_lss ?_ ?_ | refine ev_leq ?_ ?_ | refine ev_gtr ?_ ?_ | refine ev_geq ?_ ?_) <;> intro h <;> try (exfalso; omega)) | ((with_reducible first | refine ev_add ?_ ?_ | refine ev_sub ?_ ?_); · omega) | refine ev_bd rfl ?_ | refine ev_bd0 rfl ?_) | ((with_reducible refine eL ?_); first | ((with_reducible refine ev_lenm ?_ ?_); · rfl) | refine ev_lenom rfl rfl ?_ | refine ev_lenoc rfl rfl rfl ?_ | refine ev_lenc rfl rfl ?_ | refine ev_leno rfl rfl ?_ | refine ev_slen rfl ?_ | refine ev_bd rfl ?_ | refine ev_bd0 rfl ?_) | ((with_reducible refine eI ?_); first | ((with_reducible refine ev_idx ?_ ?_ ?_); (· rfl); · omega) | (refine ev_idxo rfl rfl ?_ ?_; (· first | omega | (simp only [List.length_cons, List.length_nil, List.length_map, List.length_append]; omega))) | refine ev_bd rfl ?_ | refine ev_bd0 rfl ?_) | ((with_reducible refine eC ?_); first | ((refine ev_callD (s_l6In ..) rfl rfl ?_ rfl rfl ?_ ?_); (focus first | exact .inl rfl | exact .inr rfl | (refine .inr ?_; simp [flagC, ownF, hasSl3, hasSl1, SO.hasSl, List.all_map, flatSV, SV.cells, Function.comp_def]; done)); (all_goals (intro h)); (all_goals (try (exfalso; first | omega | exact h rfl | exact h ⟨rfl, rfl, rfl⟩))))) | ((with_reducible refine eK ?_); first | (with_reducible first | refine ev_ct ?_ | refine ev_cf ?_) | ((with_reducible refine ev_cond ?_ ?_) <;> intro h)) | ((with_reducible refine eO ?_); first | refine ev_bd rfl ?_ | (refine ev_bdB rfl ?_ ?_ <;> intro h <;> try (exfalso; simp_all; done)) | refine ev_bd0 rfl ?_) | ((with_reducible refine eD ?_); first | refine ev_bd rfl ?_ | refine ev_bd0 rfl ?_ | ((with_reducible refine ev_pickB ?_ ?_) <;> intro h)) | ((with_reducible refine ih ?_ (all_step hp ?_) _ _ ?_) <;> (first | omega | assumption | ((unfold fileAt; (try simp only [Int.toNat_natCast, tn_sub1, tn_add1] at *); omega)) | (simp only [*, List.map_append, List.length_append, List.length_cons, List.length_nil, List.map_cons, List.map_nil]; done) | (simp_all; done) | (simp_all; omega))) | refine ev_ret rfl ?_)
  all_goals first
    | (have hm : filesAt l = false := all_false (i := i) (by omega) (by unfold fileAt; (try simp only [Int.toNat_natCast, tn_sub1, tn_add1] at *); omega)
       exact ⟨congrArg bB (by simp [filesOk, hm]), rfl⟩)
    | (have hm : filesAt l = true := all_true hp (by omega)
       exact ⟨congrArg bB (by simp [filesOk, hm] <;> omega), rfl⟩)
    | trace_state
theorem s_l1Files (l : List TFile) (hl : l.length ≤ 2000000) : Ex (fun m => callF prg m 114 [.sl 2 (l.map eFile)] []) (bB (filesOk l)) [] := by
  refine ev_is.1 ?_
  (refine U114 (nl := 0) rfl ?_; unfold B114)
  exact s_l1Files_L l hl 0 (by omega) (fun j hj => by omega) 0 0 rfl
theorem s_l1Deps_L (name : Int) (l : List TDep) (hl : l.length ≤ 2000000) : ∀ i, i ≤ l.length → (∀ j, j < i → depAt name l j) → ∀ (k : Int) (c : Nat), k = i →
    Ev (fun n => G115_2 (callF prg n) (n + 1) 0 (n + 1 - c) [iI name, .sl 2 (l.map eDep), iI k] []) (Is (bB (depsOk name l)) []) := by
  refine up_ind ?_
  intro i hi ih hp k c hk
  subst hk
  (refine UG115_2 _ ?_; unfold GB115_2)
  repeat' (first | ((with_reducible refine eG ?_); first | (with_reducible first | refine ev_gtt ?_ | refine ev_gff ?_ | refine ev_gtf ?_ | refine ev_gft ?_ | refine ev_gu ?_) | refine ev_bd rfl ?_ | refine ev_bd0 rfl ?_ | ((with_reducible refine ev_gB ?_ ?_) <;> intro h)) | ((with_reducible refine eB ?_); first | ((with_reducible first | refine ev_lss ?_ ?_ | refine ev_leq ?_ ?_ | refine ev_gtr ?_ ?_ | refine ev_geq ?_ ?_ | refine ev_eql ?_ ?_) <;> intro h <;> try (exfalso; omega)) | ((with_reducible first | refine ev_add ?_ ?_ | refine ev_sub ?_ ?_); · omega) | refine ev_bd rfl ?_ | refine ev_bd0 rfl ?_) | ((with_reducible refine eL ?_); first | ((with_reducible refine ev_lenm ?_ ?_); · rfl) | refine ev_lenom rfl rfl ?_ | refine ev_lenoc rfl rfl rfl ?_ | refine ev_lenc rfl rfl ?_ | refine ev_leno rfl rfl ?_ | refine ev_slen rfl ?_ | refine ev_bd rfl ?_ | refine ev_bd0 rfl ?_) | ((with_reducible refine eI ?_); first | ((with_reducible refine ev_idx ?_ ?_ ?_); (· rfl); · omega) | (refine ev_idxo rfl rfl ?_ ?_; (· first | omega | (simp only [List.length_cons, List.length_nil, List.length_map, List.length_append]; omega))) | refine ev_bd rfl ?_ | refine ev_bd0 rfl ?_) | ((with_reducible refine eC ?_); first | ((refine ev_callD (s_l6In ..) rfl rfl ?_ rfl rfl ?_ ?_); (focus first | exact .inl rfl | exact .inr rfl | (refine .inr ?_; simp [flagC, ownF, hasSl3, hasSl1, SO.hasSl, List.all_map, flatSV, SV.cells, Function.comp_def]; done)); (all_goals (intro h)); (all_goals (try (exfalso; first | omega | exact h rfl | exact h ⟨rfl, rfl, rfl⟩))))) | ((with_reducible refine eK ?_); first | (with_reducible first | refine ev_ct ?_ | refine ev_cf ?_) | ((with_reducible refine ev_cond ?_ ?_) <;> intro h)) | ((with_reducible refine eO ?_); first | refine ev_bd rfl ?_ | (refine ev_bdB rfl ?_ ?_ <;> intro h <;> try (exfalso; simp_all; done)) | refine ev_bd0 rfl ?_) | ((with_reducible refine eD ?_); first | refine ev_bd rfl ?_ | refine ev_bd0 rfl ?_ | ((with_reducible refine ev_pickB ?_ ?_) <;> intro h)) | ((with_reducible refine eH ?_); first | refine ev_gcB rfl ?_) | (with_reducible first | refine UL115_2 ?_ | refine VL115_2 ?_) | ((with_reducible refine ih ?_ (all_step hp ?_) _ _ ?_) <;> (first | omega | assumption | ((unfold depAt; (try simp only [Int.toNat_natCast, tn_sub1, tn_add1] at *); omega)) | (simp only [*, List.map_append, List.length_append, List.length_cons, List.length_nil, List.map_cons, List.map_nil]; done) | (simp_all; done) | (simp_all; omega))) | refine ev_ret rfl ?_)
  all_goals first
    | (have hm : depsAt name l = false := all_false (i := i) (by omega) (by unfold depAt; (try simp only [Int.toNat_natCast, tn_sub1, tn_add1] at *); omega)
       exact ⟨congrArg bB (by simp [depsOk, hm]), rfl⟩)
    | (have hm : depsAt name l = true := all_true hp (by omega)
       exact ⟨congrArg bB (by simp [depsOk, hm] <;> omega), rfl⟩)
    | trace_state
theorem s_l1Deps (name : Int) (l : List TDep) (hl : l.length ≤ 2000000) : Ex (fun m => callF prg m 115 [iI name, .sl 2 (l.map eDep)] []) (bB (depsOk name l)) [] := by
  refine ev_is.1 ?_
  (refine U115 (nl := 0) rfl ?_; unfold B115)
  repeat' (first | ((with_reducible refine eD ?_); first | refine ev_bd rfl ?_ | refine ev_bd0 rfl ?_) | ((with_reducible refine eH ?_); first | refine ev_gcB rfl ?_) | (with_reducible first | refine UL115_2 ?_ | refine VL115_2 ?_) | ( exact s_l1Deps_L name l hl 0 (by omega) (fun j hj => by omega) 0 1 rfl) | refine ev_ret rfl ?_)
theorem s_PkgOkS (name ver : Int) (F : List TFile) (D : List TDep) (hF : F.length ≤ 2000000) (hD : D.length ≤ 2000000) : Ex (fun m => callF prg m 109 [.ag [iI name, iI ver, .sl 2 (F.map eFile), .sl 2 (D.map eDep)]] []) (bB (pkgOk ⟨name, ver, F, D⟩)) [] := by
  refine ev_is.1 ?_
  (refine U109 (nl := 0) rfl ?_; unfold B109)
  repeat' (first | ((with_reducible refine eG ?_); first | (with_reducible first | refine ev_gtt ?_ | refine ev_gff ?_ | refine ev_gtf ?_ | refine ev_gft ?_ | refine ev_gu ?_) | refine ev_bd rfl ?_ | refine ev_bd0 rfl ?_ | ((with_reducible refine ev_gB ?_ ?_) <;> intro h)) | ((with_reducible refine eC ?_); first | ((refine ev_callD (s_l6In ..) rfl rfl ?_ rfl rfl ?_ ?_); (focus first | exact .inl rfl | exact .inr rfl | (refine .inr ?_; simp [flagC, ownF, hasSl3, hasSl1, SO.hasSl, List.all_map, flatSV, SV.cells, Function.comp_def]; done)); (all_goals (intro h)); (all_goals (try (exfalso; first | omega | exact h rfl | exact h ⟨rfl, rfl, rfl⟩)))) | ((refine ev_callB (s_l1Files _ hF) rfl rfl ?_ rfl rfl ?_ ?_); (focus first | exact .inl rfl | exact .inr rfl | (refine .inr ?_; simp [flagC, ownF, hasSl3, hasSl1, SO.hasSl, List.all_map, flatSV, SV.cells, Function.comp_def]; done)); (all_goals (intro h)); (all_goals (try (exfalso; simp_all; done)))) | ((refine ev_callB (s_l1Deps _ _ hD) rfl rfl ?_ rfl rfl ?_ ?_); (focus first | exact .inl rfl | exact .inr rfl | (refine .inr ?_; simp [flagC, ownF, hasSl3, hasSl1, SO.hasSl, List.all_map, flatSV, SV.cells, Function.comp_def]; done)); (all_goals (intro h)); (all_goals (try (exfalso; simp_all; done))))) | ((with_reducible refine eO ?_); first | refine ev_bd rfl ?_ | (refine ev_bdB rfl ?_ ?_ <;> intro h <;> try (exfalso; simp_all; done)) | refine ev_bd0 rfl ?_) | ((with_reducible refine eD ?_); first | refine ev_bd rfl ?_ | refine ev_bd0 rfl ?_ | ((with_reducible refine ev_pickB ?_ ?_) <;> intro h)) | refine ev_ret rfl ?_)
  all_goals (refine ⟨congrArg (fun b => SV.v (Value.bool b)) ?_, rfl⟩; first | (simp_all [pkgOk]; done) | (simp_all [pkgOk]; omega) | (simp [pkgOk] at *; omega) | (simp [pkgOk]; omega) | grind [pkgOk] | trace_state)

/-! ### texts -/
def bt (n : Int) : UInt8 := UInt8.ofNat n.toNat
theorem s_l6Dec (n : Int) (h : 0 ≤ n ∧ n < 10) : Ex (fun m => callF prg m 111 [iI n] []) (sS [bt (48 + n)]) [] := by
  refine ev_is.1 ?_
  (refine U111 (nl := 0) rfl ?_; unfold B111)
  repeat' (first | ((with_reducible refine eB ?_); first | ((with_reducible refine ev_lss ?_ ?_) <;> intro h <;> try (exfalso; omega)) | ((with_reducible refine ev_add ?_ ?_); · omega) | ((with_reducible refine ev_quo ?_ ?_ ?_); (· omega); (· omega); intro x hx hx0 hx1) | ((with_reducible refine ev_rem ?_ ?_); (· omega); intro x hx hx0 hx1) | refine ev_bd rfl ?_ | refine ev_bd0 rfl ?_) | ((with_reducible refine eC ?_); first | fail) | ((with_reducible refine eV ?_); first | ( ((with_reducible refine ev_conv_u8 ?_ ?_ ?_ ?_); (focus rfl); (focus rfl); (focus omega))) | ( refine ev_byte1 rfl rfl rfl rfl ?_) | ((with_reducible refine ev_conv64 ?_ ?_ ?_ ?_); (· rfl); (· rfl); · omega) | refine ev_bd rfl ?_ | refine ev_bd0 rfl ?_) | ((with_reducible refine eK ?_); first | (with_reducible first | refine ev_ct ?_ | refine ev_cf ?_) | ((with_reducible refine ev_cond ?_ ?_) <;> intro h)) | ((with_reducible refine eD ?_); first | refine ev_bd rfl ?_ | refine ev_bd0 rfl ?_) | refine ev_ret rfl ?_)
  all_goals exact ⟨rfl, rfl⟩
theorem s_l1Name (name ver : Int) (h : 1 ≤ name ∧ name ≤ 4) (hv : 0 ≤ ver ∧ ver < 10) : Ex (fun m => callF prg m 110 [iI name, iI ver] []) (sS [bt (96 + name), bt (48 + ver)]) [] := by
  refine ev_is.1 ?_
  (refine U110 (nl := 0) rfl ?_; unfold B110)
  repeat' (first | ((with_reducible refine eB ?_); first | ((with_reducible first | refine ev_add ?_ ?_ | refine ev_sub ?_ ?_); · omega) | ( ((with_reducible refine ev_cat ?_ ?_); (focus simp))) | refine ev_bd rfl ?_ | refine ev_bd0 rfl ?_) | ((with_reducible refine eC ?_); first | ((refine ev_call (s_l6Dec _ hv) rfl rfl ?_ rfl ?_); (focus first | exact .inl rfl | exact .inr rfl | (refine .inr ?_; simp [flagC, ownF, hasSl3, hasSl1, SO.hasSl, List.all_map, flatSV, SV.cells, Function.comp_def]; done)))) | ((with_reducible refine eV ?_); first | ( ((with_reducible refine ev_conv_u8 ?_ ?_ ?_ ?_); (focus rfl); (focus rfl); (focus omega))) | ( refine ev_byte1 rfl rfl rfl rfl ?_) | ((with_reducible refine ev_conv64 ?_ ?_ ?_ ?_); (· rfl); (· rfl); · omega) | refine ev_bd rfl ?_ | refine ev_bd0 rfl ?_) | ((with_reducible refine eD ?_); first | refine ev_bd rfl ?_ | refine ev_bd0 rfl ?_) | (with_reducible refine ev_bothI ?_ ?_) | refine ev_ret rfl ?_)
  all_goals exact ⟨by show sS _ = sS _; simp [bt, show (97 : Int) + name - 1 = 96 + name by omega], rfl⟩

def fileTx (f : TFile) : List UInt8 := [32, bt (48 + f.path), 58, bt (48 + f.data)]
def depTx (d : TDep) : List UInt8 := [32, bt (96 + d.name), bt (48 + d.least)]
/-- The text of a package that is ok. -/
def pkgTx (p : TPkg) : List UInt8 := [bt (96 + p.name), bt (48 + p.ver)] ++ p.files.flatMap fileTx ++ p.deps.flatMap depTx
def pkgText (p : TPkg) : List UInt8 := if pkgOk p = true then pkgTx p else []

theorem flat_take {α : Type} [Inhabited α] (f : α → List UInt8) {l : List α} {i : Nat} (hi : i < l.length) : (l.take (i + 1)).flatMap f = (l.take i).flatMap f ++ f (nth l i) := by
  have : l.take (i + 1) = l.take i ++ [nth l i] := by rw [List.take_add_one, get_nth hi]; rfl
  rw [this, List.flatMap_append]; simp
theorem flat_len {α : Type} (f : α → List UInt8) (k : Nat) (hf : ∀ x, (f x).length = k) : ∀ l : List α, (l.flatMap f).length = k * l.length
  | [] => by simp
  | x :: xs => by rw [List.flatMap_cons, List.length_append, hf, flat_len f k hf xs, List.length_cons]; rw [Nat.mul_add, Nat.mul_one, Nat.add_comm]
theorem s_PkgText_L9 (p : TPkg) (hp : pkgOk p = true) : ∀ i, i ≤ p.deps.length → ∀ (t : List UInt8) (k : Int) (c : Nat), k = i → t = [bt (96 + p.name), bt (48 + p.ver)] ++ p.files.flatMap fileTx ++ (p.deps.take i).flatMap depTx →
    Ev (fun n => L95_9 (callF prg n) (n + 1) 0 (n + 1 - c) (.ptr 0 0) (sS t) (iI k) [.box [iI p.name, iI p.ver, .sl 2 (p.files.map eFile), .sl 2 (p.deps.map eDep)]]) (Is (sS (pkgTx p)) []) := by
  obtain ⟨hn, hv, hf, hd⟩ := pkgOk_iff.1 hp
  simp only [filesOk, depsOk, Bool.and_eq_true, decide_eq_true_eq] at hf hd
  have hda : ∀ i, i < p.deps.length → depAt p.name p.deps i := of_decide_eq_true hd.2
  refine up_ind ?_
  intro i hi ih t k c hk ht
  subst hk
  have h1 := flat_len fileTx 4 (fun x => rfl) p.files
  have h2 := flat_len depTx 3 (fun x => rfl) (p.deps.take i)
  have h3 : (p.deps.take i).length ≤ 2 := by rw [List.length_take]; omega
  have htl : t.length ≤ 100 := by rw [ht]; simp only [List.length_append, h1, h2, List.length_cons, List.length_nil]; omega
  have hdi := hda i
  (refine UL95_9 ?_; unfold LB95_9)
  repeat' (first | ((with_reducible refine eB ?_); first | ((with_reducible refine ev_lss ?_ ?_) <;> intro h <;> try (exfalso; omega)) | ((with_reducible refine ev_add ?_ ?_); · omega) | ( ((with_reducible refine ev_cat ?_ ?_); (focus (simp only [List.length_append, List.length_cons, List.length_nil]; omega)))) | refine ev_bd rfl ?_ | refine ev_bd0 rfl ?_) | ((with_reducible refine eL ?_); first | ((with_reducible refine ev_lenm ?_ ?_); · rfl) | refine ev_lenom rfl rfl ?_ | refine ev_lenoc rfl rfl rfl ?_ | refine ev_lenc rfl rfl ?_ | refine ev_leno rfl rfl ?_ | refine ev_slen rfl ?_ | refine ev_bd rfl ?_ | refine ev_bd0 rfl ?_) | ((with_reducible refine eI ?_); first | ((with_reducible refine ev_idx ?_ ?_ ?_); (· rfl); · omega) | (refine ev_idxo rfl rfl ?_ ?_; (· first | omega | (simp only [List.length_cons, List.length_nil, List.length_map, List.length_append]; omega))) | refine ev_bd rfl ?_ | refine ev_bd0 rfl ?_) | ((with_reducible refine eC ?_); first | ((refine ev_call (s_l1Name _ _ (by have := hdi (by omega); unfold depAt at this; simp only [Int.toNat_natCast]; omega) (by have := hdi (by omega); unfold depAt at this; simp only [Int.toNat_natCast]; omega)) rfl rfl ?_ rfl ?_); (focus first | exact .inl rfl | exact .inr rfl | (refine .inr ?_; simp [flagC, ownF, hasSl3, hasSl1, SO.hasSl, List.all_map, flatSV, SV.cells, Function.comp_def]; done)))) | ((with_reducible refine eK ?_); first | (with_reducible first | refine ev_ct ?_ | refine ev_cf ?_) | ((with_reducible refine ev_cond ?_ ?_) <;> intro h)) | ((with_reducible refine eO ?_); first | refine ev_bd rfl ?_ | (refine ev_bdB rfl ?_ ?_ <;> intro h <;> try (exfalso; simp_all; done)) | refine ev_bd0 rfl ?_) | ((with_reducible refine eD ?_); first | refine ev_bd rfl ?_ | refine ev_bd0 rfl ?_) | ((with_reducible refine ih ?_ _ _ _ ?_ ?_) <;> (first | omega | assumption | ((rw [ht, flat_take _ (by omega)]; simp [depTx])) | (simp only [*, List.map_append, List.length_append, List.length_cons, List.length_nil, List.map_cons, List.map_nil]; done) | (simp_all; done) | (simp_all; omega))) | refine ev_ret rfl ?_)
  exact ⟨by rw [ht, List.take_of_length_le (by omega)]; rfl, rfl⟩
theorem s_PkgText_L5 (p : TPkg) (hp : pkgOk p = true) : ∀ i, i ≤ p.files.length → ∀ (t : List UInt8) (k : Int) (c : Nat), k = i → t = [bt (96 + p.name), bt (48 + p.ver)] ++ (p.files.take i).flatMap fileTx →
    Ev (fun n => L95_5 (callF prg n) (n + 1) 0 (n + 1 - c) (.ptr 0 0) (sS t) (iI k) [.box [iI p.name, iI p.ver, .sl 2 (p.files.map eFile), .sl 2 (p.deps.map eDep)]]) (Is (sS (pkgTx p)) []) := by
  obtain ⟨hn, hv, hf, hd⟩ := pkgOk_iff.1 hp
  simp only [filesOk, depsOk, Bool.and_eq_true, decide_eq_true_eq] at hf hd
  have hfa : ∀ i, i < p.files.length → fileAt p.files i := of_decide_eq_true hf.2
  refine up_ind ?_
  intro i hi ih t k c hk ht
  subst hk
  have h1 := flat_len fileTx 4 (fun x => rfl) (p.files.take i)
  have h3 : (p.files.take i).length ≤ 2 := by rw [List.length_take]; omega
  have htl : t.length ≤ 100 := by rw [ht]; simp only [List.length_append, h1, List.length_cons, List.length_nil]; omega
  have hfi := hfa i
  (refine UL95_5 ?_; unfold LB95_5)
  repeat' (first | ((with_reducible refine eB ?_); first | ((with_reducible refine ev_lss ?_ ?_) <;> intro h <;> try (exfalso; omega)) | ((with_reducible refine ev_add ?_ ?_); · omega) | ( ((with_reducible refine ev_cat ?_ ?_); (focus (simp only [List.length_append, List.length_cons, List.length_nil]; omega)))) | refine ev_bd rfl ?_ | refine ev_bd0 rfl ?_) | ((with_reducible refine eL ?_); first | ((with_reducible refine ev_lenm ?_ ?_); · rfl) | refine ev_lenom rfl rfl ?_ | refine ev_lenoc rfl rfl rfl ?_ | refine ev_lenc rfl rfl ?_ | refine ev_leno rfl rfl ?_ | refine ev_slen rfl ?_ | refine ev_bd rfl ?_ | refine ev_bd0 rfl ?_) | ((with_reducible refine eI ?_); first | ((with_reducible refine ev_idx ?_ ?_ ?_); (· rfl); · omega) | (refine ev_idxo rfl rfl ?_ ?_; (· first | omega | (simp only [List.length_cons, List.length_nil, List.length_map, List.length_append]; omega))) | refine ev_bd rfl ?_ | refine ev_bd0 rfl ?_) | ((with_reducible refine eC ?_); first | ((refine ev_call (s_l6Dec _ (by have := hfi (by omega); unfold fileAt at this; simp only [Int.toNat_natCast]; omega)) rfl rfl ?_ rfl ?_); (focus first | exact .inl rfl | exact .inr rfl | (refine .inr ?_; simp [flagC, ownF, hasSl3, hasSl1, SO.hasSl, List.all_map, flatSV, SV.cells, Function.comp_def]; done)))) | ((with_reducible refine eK ?_); first | (with_reducible first | refine ev_ct ?_ | refine ev_cf ?_) | ((with_reducible refine ev_cond ?_ ?_) <;> intro h)) | ((with_reducible refine eO ?_); first | refine ev_bd rfl ?_ | (refine ev_bdB rfl ?_ ?_ <;> intro h <;> try (exfalso; simp_all; done)) | refine ev_bd0 rfl ?_) | ((with_reducible refine eD ?_); first | refine ev_bd rfl ?_ | refine ev_bd0 rfl ?_) | ((with_reducible refine ev_dchk ?_ ?_); · intro _; rfl) | (with_reducible refine ev_bothI ?_ ?_) | ((with_reducible refine UJ95_6 ?_); (unfold JB95_6)) | ((with_reducible refine ih ?_ _ _ _ ?_ ?_) <;> (first | omega | assumption | ((rw [ht, flat_take _ (by omega)]; simp [fileTx])) | (simp only [*, List.map_append, List.length_append, List.length_cons, List.length_nil, List.map_cons, List.map_nil]; done) | (simp_all; done) | (simp_all; omega))) | ( exact s_PkgText_L9 p hp 0 (by omega) _ 0 0 rfl (by rw [ht, List.take_of_length_le (by omega)]; simp)) | refine ev_ret rfl ?_)
theorem s_PkgTextS (name ver : Int) (F : List TFile) (D : List TDep) (hF : F.length ≤ 2000000) (hD : D.length ≤ 2000000) : Ex (fun m => callF prg m 95 [.ag [iI name, iI ver, .sl 2 (F.map eFile), .sl 2 (D.map eDep)]] []) (sS (pkgText ⟨name, ver, F, D⟩)) [] := by
  refine ev_is.1 ?_
  (refine U95 (nl := 0) rfl ?_; unfold B95)
  repeat' (first | ((with_reducible refine eC ?_); first | ((refine ev_callB (s_PkgOkS _ _ _ _ hF hD) rfl rfl ?_ rfl rfl ?_ ?_); (focus first | exact .inl rfl | exact .inr rfl | (refine .inr ?_; simp [flagC, ownF, hasSl3, hasSl1, SO.hasSl, List.all_map, flatSV, SV.cells, Function.comp_def]; done)); (all_goals (intro h)); (all_goals (try (exfalso; simp_all; done)))) | ((refine ev_call (s_l1Name _ _ (by have := (pkgOk_iff.1 (by assumption : pkgOk ⟨name, ver, F, D⟩ = true)).1; exact this) (by have := (pkgOk_iff.1 (by assumption : pkgOk ⟨name, ver, F, D⟩ = true)).2.1; dsimp only at this; omega)) rfl rfl ?_ rfl ?_); (focus first | exact .inl rfl | exact .inr rfl | (refine .inr ?_; simp [flagC, ownF, hasSl3, hasSl1, SO.hasSl, List.all_map, flatSV, SV.cells, Function.comp_def]; done)))) | ((with_reducible refine eK ?_); first | (with_reducible first | refine ev_ct ?_ | refine ev_cf ?_) | ((with_reducible refine ev_cond ?_ ?_) <;> intro h)) | ((with_reducible refine eO ?_); first | refine ev_bd rfl ?_ | (refine ev_bdB rfl ?_ ?_ <;> intro h <;> try (exfalso; simp_all; done)) | refine ev_bd0 rfl ?_) | ((with_reducible refine eD ?_); first | refine ev_bd rfl ?_ | refine ev_bd0 rfl ?_) | ( (rw [show pkgText ⟨name, ver, F, D⟩ = pkgTx ⟨name, ver, F, D⟩ from if_pos (by assumption)]; exact s_PkgText_L5 ⟨name, ver, F, D⟩ (by assumption) 0 (by omega) _ 0 0 rfl (by simp))) | refine ev_ret rfl ?_)
  exact ⟨by simp [pkgText, *], rfl⟩
theorem pkgText_len (p : TPkg) : (pkgText p).length ≤ 16 := by
  unfold pkgText
  split
  · rename_i hp
    obtain ⟨hn, hv, hf, hd⟩ := pkgOk_iff.1 hp
    simp only [filesOk, depsOk, Bool.and_eq_true, decide_eq_true_eq] at hf hd
    have h1 : ∀ l : List TFile, (l.flatMap fileTx).length = 4 * l.length := fun l => by
      induction l with
      | nil => rfl
      | cons x xs ih => rw [List.flatMap_cons, List.length_append, ih, List.length_cons]; show 4 + _ = _; omega
    have h2 : ∀ l : List TDep, (l.flatMap depTx).length = 3 * l.length := fun l => by
      induction l with
      | nil => rfl
      | cons x xs ih => rw [List.flatMap_cons, List.length_append, ih, List.length_cons]; show 3 + _ = _; omega
    unfold pkgTx
    simp only [List.length_append, h1, h2, List.length_cons, List.length_nil]
    omega
  · simp

/-! ### sums -/
def sumStep (s : Int) (b : UInt8) : Int := (31 * s + (b.toNat : Int) + 1) % 9973
def sumOf (l : List UInt8) : Int := l.foldl sumStep 7
theorem sumStep_rng (s : Int) (b : UInt8) : 0 ≤ sumStep s b ∧ sumStep s b ≤ 9972 := by unfold sumStep; omega
theorem sumOf_rng (l : List UInt8) : 0 ≤ sumOf l ∧ sumOf l ≤ 9972 := by
  have key : ∀ (l : List UInt8) (s : Int), 0 ≤ s ∧ s ≤ 9972 → 0 ≤ l.foldl sumStep s ∧ l.foldl sumStep s ≤ 9972 := by
    intro l
    induction l with
    | nil => intro s h; exact h
    | cons x xs ih => intro s h; exact ih _ (sumStep_rng s x)
  exact key l 7 (by omega)
theorem sumOf_step {l : List UInt8} {i : Nat} (hi : i < l.length) : sumOf (l.take (i + 1)) = sumStep (sumOf (l.take i)) (nth l i) := by
  have : l.take (i + 1) = l.take i ++ [nth l i] := by rw [List.take_add_one, get_nth hi]; rfl
  rw [this]; simp [sumOf]
theorem s_SumOfS_L (l : List UInt8) (hl : l.length ≤ 2000000) : ∀ i, i ≤ l.length → ∀ (s k : Int) (c : Nat), k = i → s = sumOf (l.take i) →
    Ev (fun n => L94_3 (callF prg n) (n + 1) 0 (n + 1 - c) (sS l) (iI s) (iI k) []) (Is (iI (sumOf l)) []) := by
  refine up_ind ?_
  intro i hi ih s k c hk hs
  subst hk
  have hr := sumOf_rng (l.take i)
  have hb : (nth l i).toNat < 256 := (nth l i).toNat_lt
  (refine UL94_3 ?_; unfold LB94_3)
  repeat' (first | ((with_reducible refine eB ?_); first | ((with_reducible refine ev_lss ?_ ?_) <;> intro h <;> try (exfalso; omega)) | ((with_reducible first | refine ev_add ?_ ?_ | refine ev_mul ?_ ?_); · omega) | ((with_reducible refine ev_rem ?_ ?_); (· omega); intro x hx hx0 hx1) | refine ev_bd rfl ?_ | refine ev_bd0 rfl ?_) | ((with_reducible refine eL ?_); first | ((with_reducible refine ev_lenm ?_ ?_); · rfl) | refine ev_lenom rfl rfl ?_ | refine ev_lenoc rfl rfl rfl ?_ | refine ev_lenc rfl rfl ?_ | refine ev_leno rfl rfl ?_ | refine ev_slen rfl ?_ | refine ev_bd rfl ?_ | refine ev_bd0 rfl ?_) | ((with_reducible refine eV ?_); first | ( ((with_reducible refine ev_conv8 ?_ ?_ ?_ ?_); (focus rfl); (focus rfl); (focus (simp only [Int.toNat_natCast]; omega)); intro hy0 hy1)) | ((with_reducible refine ev_conv64 ?_ ?_ ?_ ?_); (· rfl); (· rfl); · omega) | refine ev_bd rfl ?_ | refine ev_bd0 rfl ?_) | ((with_reducible refine eK ?_); first | (with_reducible first | refine ev_ct ?_ | refine ev_cf ?_) | ((with_reducible refine ev_cond ?_ ?_) <;> intro h)) | ((with_reducible refine eD ?_); first | refine ev_bd rfl ?_ | refine ev_bd0 rfl ?_ | ( (refine ev_sidx rfl ?_ ?_; (focus omega)))) | ((with_reducible refine ih ?_ _ _ _ ?_ ?_) <;> (first | omega | assumption | ((rw [sumOf_step (by omega), ← hs, hx, Int.tmod_eq_emod_of_nonneg (by omega)]; rfl)) | (simp only [*, List.map_append, List.length_append, List.length_cons, List.length_nil, List.map_cons, List.map_nil]; done) | (simp_all; done) | (simp_all; omega))) | refine ev_ret rfl ?_)
  exact ⟨by rw [hs, List.take_of_length_le (by omega)], rfl⟩
theorem s_SumOfS (l : List UInt8) (hl : l.length ≤ 2000000) : Ex (fun m => callF prg m 94 [sS l] []) (iI (sumOf l)) [] := by
  refine ev_is.1 ?_
  (refine U94 (nl := 0) rfl ?_; unfold B94)
  exact s_SumOfS_L l hl 0 (by omega) _ 0 0 rfl rfl

/-! ### packages in a store -/
def pkgAt (s : List TPkg) (i : Nat) : Prop := pkgOk (nth s i) = true ∧ (0 < i → pless (nth s (i - 1)) (nth s i))
instance (s : List TPkg) (i : Nat) : Decidable (pkgAt s i) := by unfold pkgAt; exact inferInstance
def storeOk (s : List TPkg) : Bool := decide (∀ i, i < s.length → pkgAt s i)
/-- No package has too many files or needs. -/
def PL (s : List TPkg) : Prop := ∀ i, (nth s i).files.length ≤ 2000000 ∧ (nth s i).deps.length ≤ 2000000
theorem PL_small {s : List TPkg} (h : smalls s) : PL s := by
  intro i
  by_cases hi : i < s.length
  · have hm : nth s i ∈ s := List.mem_of_getElem? (get_nth hi)
    have := h _ hm
    unfold small at this
    omega
  · have : nth s i = default := by
      unfold nth
      rw [List.getD_eq_getElem?_getD, List.getElem?_eq_none (by omega)]; rfl
    rw [this]
    exact ⟨by show ([] : List TFile).length ≤ _; simp, by show ([] : List TDep).length ≤ _; simp⟩
theorem s_l3Pkgs_L (s : List TPkg) (hs : s.length ≤ 2000000) (hp0 : PL s) : ∀ i, i ≤ s.length → (∀ j, j < i → pkgAt s j) → ∀ (k : Int) (c : Nat), k = i →
    Ev (fun n => L93_2 (callF prg n) (n + 1) 0 (n + 1 - c) (.sl 4 (s.map ePkg)) (iI k) []) (Is (bB (storeOk s)) []) := by
  refine up_ind ?_
  intro i hi ih hp k c hk
  subst hk
  (refine UL93_2 ?_; unfold LB93_2)
  repeat' (first | ((with_reducible refine eG ?_); first | (with_reducible first | refine ev_gtt ?_ | refine ev_gff ?_ | refine ev_gtf ?_ | refine ev_gft ?_ | refine ev_gu ?_) | refine ev_bd rfl ?_ | refine ev_bd0 rfl ?_ | ((with_reducible refine ev_gB ?_ ?_) <;> intro h)) | ((with_reducible refine eB ?_); first | ((with_reducible first | refine ev_lss ?_ ?_ | refine ev_gtr ?_ ?_) <;> intro h <;> try (exfalso; omega)) | ((with_reducible first | refine ev_add ?_ ?_ | refine ev_sub ?_ ?_); · omega) | refine ev_bd rfl ?_ | refine ev_bd0 rfl ?_) | ((with_reducible refine eL ?_); first | ((with_reducible refine ev_lenm ?_ ?_); · rfl) | refine ev_lenom rfl rfl ?_ | refine ev_lenoc rfl rfl rfl ?_ | refine ev_lenc rfl rfl ?_ | refine ev_leno rfl rfl ?_ | refine ev_slen rfl ?_ | refine ev_bd rfl ?_ | refine ev_bd0 rfl ?_) | ((with_reducible refine eI ?_); first | ((with_reducible refine ev_idx ?_ ?_ ?_); (· rfl); · omega) | (refine ev_idxo rfl rfl ?_ ?_; (· first | omega | (simp only [List.length_cons, List.length_nil, List.length_map, List.length_append]; omega))) | refine ev_bd rfl ?_ | refine ev_bd0 rfl ?_) | ((with_reducible refine eC ?_); first | ((refine ev_callB (s_PkgOkS _ _ _ _ (hp0 _).1 (hp0 _).2) rfl rfl ?_ rfl rfl ?_ ?_); (focus first | exact .inl rfl | exact .inr rfl | (refine .inr ?_; simp [flagC, ownF, hasSl3, hasSl1, SO.hasSl, List.all_map, flatSV, SV.cells, Function.comp_def]; done)); (all_goals (intro h)); (all_goals (try (exfalso; simp_all; done)))) | ((refine ev_callD (s_l3Less ..) rfl rfl ?_ rfl rfl ?_ ?_); (focus first | exact .inl rfl | exact .inr rfl | (refine .inr ?_; simp [flagC, ownF, hasSl3, hasSl1, SO.hasSl, List.all_map, flatSV, SV.cells, Function.comp_def]; done)); (all_goals (intro h)); (all_goals (try (exfalso; first | omega | exact h rfl | exact h ⟨rfl, rfl, rfl⟩))))) | ((with_reducible refine eK ?_); first | (with_reducible first | refine ev_ct ?_ | refine ev_cf ?_) | ((with_reducible refine ev_cond ?_ ?_) <;> intro h)) | ((with_reducible refine eO ?_); first | refine ev_bd rfl ?_ | (refine ev_bdB rfl ?_ ?_ <;> intro h <;> try (exfalso; simp_all; done)) | refine ev_bd0 rfl ?_) | ((with_reducible refine eD ?_); first | refine ev_bd rfl ?_ | refine ev_bd0 rfl ?_ | ((with_reducible refine ev_pickB ?_ ?_) <;> intro h)) | ((with_reducible refine ih ?_ (all_step hp ?_) _ _ ?_) <;> (first | omega | assumption | ((refine ⟨by assumption, fun hi0 => ?_⟩; unfold pless; (try simp only [Int.toNat_natCast, tn_sub1, tn_add1] at *); omega)) | (simp only [*, List.map_append, List.length_append, List.length_cons, List.length_nil, List.map_cons, List.map_nil]; done) | (simp_all; done) | (simp_all; omega))) | refine ev_ret rfl ?_)
  all_goals first
    | exact ⟨congrArg bB (Eq.symm (all_true hp (by omega))), rfl⟩
    | (refine ⟨congrArg bB (Eq.symm (all_false (i := i) (by omega) ?_)), rfl⟩; intro hh; have h1 := hh.2 (by omega); unfold pless at h1; (try simp only [Int.toNat_natCast, tn_sub1, tn_add1] at *); omega)
    | (refine ⟨congrArg bB (Eq.symm (all_false (i := i) (by omega) ?_)), rfl⟩; intro hh; have h1 := hh.1; simp only [Int.toNat_natCast] at h; simp_all; done)
    | trace_state
theorem s_l3Pkgs (s : List TPkg) (hs : s.length ≤ 2000000) (hp0 : PL s) : Ex (fun m => callF prg m 93 [.sl 4 (s.map ePkg)] []) (bB (storeOk s)) [] := by
  refine ev_is.1 ?_
  (refine U93 (nl := 0) rfl ?_; unfold B93)
  exact s_l3Pkgs_L s hs hp0 0 (by omega) (fun j hj => by omega) 0 0 rfl

/-! ### the index of packages -/
def metaOf (p : TPkg) : TMeta := ⟨p.name, p.ver, sumOf (pkgText p)⟩
def zIndex : TIndex := ⟨0, 0, []⟩
def indexOf (num til : Int) (s : List TPkg) : TIndex × Bool := if storeOk s = true ∧ indexOk num til (s.map metaOf) = true then (⟨num, til, s.map metaOf⟩, true) else (zIndex, false)
abbrev rIndex (x : TIndex) : SV := .ag [iI x.num, iI x.til, .osl 0]
theorem s_IndexOfS_L (num til : Int) (s : List TPkg) (hs : s.length ≤ 2000000) (hp0 : PL s) (hok : storeOk s = true) : ∀ i, i ≤ s.length → ∀ (L : List SV) (k : Int) (c : Nat), k = i → L = ((s.take i).map metaOf).map eMeta →
    Ev (fun n => G66_5 (callF prg n) (n + 1) 0 (n + 1 - c) [.sl 4 (s.map ePkg), .ptr 0 0, .ptr 1 0, iI k] [.box [iI 0, iI 0, .osl 2], .box [iI num, iI til, .osl 3], .arr false 3 [], .arr false 3 L])
      (Is (.tup [rIndex (indexOf num til s).1, bB (indexOf num til s).2]) [.arr false 3 ((indexOf num til s).1.metas.map eMeta)]) := by
  refine up_ind ?_
  intro i hi ih L k c hk hL
  subst hk
  have hLl : L.length ≤ 2000000 := by rw [hL]; simp only [List.length_map, List.length_take]; omega
  subst hL
  (refine UG66_5 _ ?_; unfold GB66_5)
  repeat' (first | ((with_reducible refine eB ?_); first | ((with_reducible refine ev_lss ?_ ?_) <;> intro h <;> try (exfalso; omega)) | ((with_reducible refine ev_add ?_ ?_); · omega) | refine ev_bd rfl ?_ | refine ev_bd0 rfl ?_) | ((with_reducible refine eL ?_); first | ((with_reducible refine ev_lenm ?_ ?_); · rfl) | refine ev_lenom rfl rfl ?_ | refine ev_lenoc rfl rfl rfl ?_ | refine ev_lenc rfl rfl ?_ | refine ev_leno rfl rfl ?_ | refine ev_slen rfl ?_ | refine ev_bd rfl ?_ | refine ev_bd0 rfl ?_) | ((with_reducible refine eI ?_); first | ((with_reducible refine ev_idx ?_ ?_ ?_); (· rfl); · omega) | (refine ev_idxo rfl rfl ?_ ?_; (· first | omega | (simp only [List.length_cons, List.length_nil, List.length_map, List.length_append]; omega))) | refine ev_bd rfl ?_ | refine ev_bd0 rfl ?_) | ((with_reducible refine eC ?_); first | ((refine ev_call (s_PkgTextS _ _ _ _ (hp0 _).1 (hp0 _).2) rfl rfl ?_ rfl ?_); (focus first | exact .inl rfl | exact .inr rfl | (refine .inr ?_; simp [flagC, ownF, hasSl3, hasSl1, SO.hasSl, List.all_map, flatSV, SV.cells, Function.comp_def]; done))) | ((refine ev_call (s_SumOfS _ (Nat.le_trans (pkgText_len _) (by decide))) rfl rfl ?_ rfl ?_); (focus first | exact .inl rfl | exact .inr rfl | (refine .inr ?_; simp [flagC, ownF, hasSl3, hasSl1, SO.hasSl, List.all_map, flatSV, SV.cells, Function.comp_def]; done))) | ((refine ev_callB (s_IndexOkS _ _ _ (by simp only [List.length_map, List.length_take]; omega)) rfl rfl ?_ rfl rfl ?_ ?_); (focus first | exact .inl rfl | exact .inr rfl | (refine .inr ?_; simp [flagC, ownF, hasSl3, hasSl1, SO.hasSl, List.all_map, flatSV, SV.cells, Function.comp_def]; done)); (all_goals (intro h)); (all_goals (try (exfalso; simp_all; done))))) | ((with_reducible refine eA ?_); first | (refine ev_app rfl rfl rfl rfl rfl ?_ ?_; · first | decide | (simp only [List.length_append, List.length_cons, List.length_nil, List.length_map, List.length_take]; omega))) | ((with_reducible refine eK ?_); first | (with_reducible first | refine ev_ct ?_ | refine ev_cf ?_) | ((with_reducible refine ev_cond ?_ ?_) <;> intro h)) | ((with_reducible refine eO ?_); first | refine ev_bd rfl ?_ | (refine ev_bdB rfl ?_ ?_ <;> intro h <;> try (exfalso; simp_all; done)) | refine ev_bd0 rfl ?_ | (refine ev_ldz rfl rfl rfl ?_ ?_ ?_; (· simp); (· first | omega | (simp only [List.length_cons, List.length_nil, List.length_map, List.length_append]; omega)); intro w)) | ((with_reducible refine eD ?_); first | refine ev_bd rfl ?_ | refine ev_bd0 rfl ?_) | ((with_reducible refine ev_dchk ?_ ?_); · intro _; rfl) | ((with_reducible refine eH ?_); first | refine ev_gcB rfl ?_) | (with_reducible refine ev_bothI ?_ ?_) | ((with_reducible refine UJ66_6 ?_); (unfold JB66_6)) | (with_reducible first | refine UL66_5 ?_ | refine VL66_5 ?_) | ((with_reducible refine ih ?_ _ _ _ ?_ ?_) <;> (first | omega | assumption | ((rw [take_nth (by omega)]; simp only [List.map_append, List.map_cons, List.map_nil]; rfl)) | (simp only [*, List.map_append, List.length_append, List.length_cons, List.length_nil, List.map_cons, List.map_nil]; done) | (simp_all; done) | (simp_all; omega))) | refine ev_ret rfl ?_)
  · rw [List.take_of_length_le (by omega)] at h ⊢
    exact ⟨by simp [indexOf, hok, h], by simp [indexOf, hok, h]⟩
  · rw [List.take_of_length_le (by omega)] at h
    exact ⟨by simp [indexOf, hok, h, zIndex], by simp [indexOf, hok, h, zIndex]⟩
theorem s_IndexOfS (num til : Int) (s : List TPkg) (hs : s.length ≤ 2000000) (hp0 : PL s) : Ex (fun m => callF prg m 66 [iI num, iI til, .sl 4 (s.map ePkg)] []) (.tup [rIndex (indexOf num til s).1, bB (indexOf num til s).2]) [.arr false 3 ((indexOf num til s).1.metas.map eMeta)] := by
  refine ev_is.1 ?_
  (refine U66 (nl := 0) rfl ?_; unfold B66)
  repeat' (first | ((with_reducible refine eC ?_); first | ((refine ev_callB (s_l3Pkgs _ hs hp0) rfl rfl ?_ rfl rfl ?_ ?_); (focus first | exact .inl rfl | exact .inr rfl | (refine .inr ?_; simp [flagC, ownF, hasSl3, hasSl1, SO.hasSl, List.all_map, flatSV, SV.cells, Function.comp_def]; done)); (all_goals (intro h)); (all_goals (try (exfalso; simp_all; done))))) | ((with_reducible refine eK ?_); first | (with_reducible first | refine ev_ct ?_ | refine ev_cf ?_) | ((with_reducible refine ev_cond ?_ ?_) <;> intro h)) | ((with_reducible refine eO ?_); first | refine ev_bd rfl ?_ | (refine ev_bdB rfl ?_ ?_ <;> intro h <;> try (exfalso; simp_all; done)) | refine ev_bd0 rfl ?_ | (refine ev_ldz rfl rfl rfl ?_ ?_ ?_; (· simp); (· first | omega | (simp only [List.length_cons, List.length_nil, List.length_map, List.length_append]; omega)); intro w)) | ((with_reducible refine eD ?_); first | refine ev_bd rfl ?_ | refine ev_bd0 rfl ?_) | ((with_reducible refine eH ?_); first | refine ev_gcB rfl ?_) | (with_reducible first | refine UL66_5 ?_ | refine VL66_5 ?_) | ( exact s_IndexOfS_L num til s hs hp0 (by assumption) 0 (by omega) _ 0 _ rfl (by simp)) | refine ev_ret rfl ?_)
  exact ⟨by simp [indexOf, *, zIndex], by simp [indexOf, *, zIndex]⟩

end Go.Proofs.Ytjfegdlgepbjoaa
