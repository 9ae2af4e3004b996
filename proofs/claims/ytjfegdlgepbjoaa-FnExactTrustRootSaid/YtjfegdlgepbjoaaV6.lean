/- Packages, as data; drawn packages. -/
import Derived.Test.YtjfegdlgepbjoaaV1
namespace Go.Proofs.Ytjfegdlgepbjoaa
open Go
set_option linter.unusedVariables false
set_option linter.unusedSimpArgs false
set_option maxHeartbeats 4000000

structure TFile where
  path : Int
  data : Int
  deriving Inhabited, DecidableEq
structure TDep where
  name : Int
  least : Int
  deriving Inhabited, DecidableEq
structure TPkg where
  name : Int
  ver : Int
  files : List TFile
  deps : List TDep
  deriving Inhabited, DecidableEq
abbrev eFile (f : TFile) : SV := .ag [iI f.path, iI f.data]
abbrev eDep (d : TDep) : SV := .ag [iI d.name, iI d.least]
abbrev ePkg (p : TPkg) : SV := .ag [iI p.name, iI p.ver, .sl 2 (p.files.map eFile), .sl 2 (p.deps.map eDep)]
/-- A package as a result: its slices are its own, by name. -/
abbrev rPkg (p : TPkg) (j k : Nat) : SV := .ag [iI p.name, iI p.ver, .osl j, .osl k]
abbrev oPkg (p : TPkg) : List SO := [.arr false 2 (p.files.map eFile), .arr false 2 (p.deps.map eDep)]

/-- What is needed has a name. -/
def depsIn (D : List TDep) : Prop := ∀ d, d ∈ D → 1 ≤ d.name ∧ d.name ≤ 4
theorem depsIn_nil : depsIn [] := fun d h => by cases h
theorem depsIn_app {D : List TDep} {d : TDep} (h : depsIn D) (hd : 1 ≤ d.name ∧ d.name ≤ 4) : depsIn (D ++ [d]) := by
  intro x hx
  rcases List.mem_append.1 hx with h1 | h1
  · exact h x h1
  · rw [List.mem_singleton.1 h1]; exact hd
/-- A drawn package: small. -/
def QPkg (b : List Int) (p name : Int) : SV → List SO → Prop := fun x os => ∃ (t : TPkg) (q : Int), x = rPkg t 1 2 ∧ os = [rd b q, .arr false 2 (t.files.map eFile), .arr false 2 (t.deps.map eDep)] ∧ t.files.length ≤ 3 ∧ t.deps.length ≤ 3 ∧ p ≤ q ∧ q ≤ p + 30 ∧ t.name = name ∧ depsIn t.deps

theorem s_l71Pkg_L9 {b : List Int} (hb : RdOK b) {p0 : Int} (hp0 : 0 ≤ p0 ∧ p0 < 700000000) (name ver : Int) (F : List TFile) (LF : List SV) (hLF : LF = F.map eFile) (hF : F.length ≤ 3) : ∀ i : Nat, i ≤ 4 → ∀ (p k : Int) (D : List TDep) (L : List SV) (c : Nat), k = i + 1 → L = D.map eDep → D.length ≤ 2 → p0 ≤ p → p ≤ p0 + 10 + 2 * i → depsIn D →
    Ev (fun n => G96_9 (callF prg n) (n + 1) 1 (n + 1 - c) [.ptr 0 0, iI name, .ptr 1 0, .ptr 2 0, iI k] [rd b p, .box [iI 0, iI 0, .osl 3, .osl 4], .box [iI name, iI ver, .osl 5, .osl 6], .arr false 2 [], .arr false 2 [], .arr false 2 LF, .arr false 2 L]) (QPkg b p0 name) := by
  refine up_ind ?_
  intro i hi ih p k D L c hk hL hD h1 h2 hdi
  have hLl : L.length = D.length := by rw [hL, List.length_map]
  (refine UG96_9 _ ?_; unfold GB96_9)
  repeat' (first | ((with_reducible refine eG ?_); first | (with_reducible first | refine ev_gtt ?_ | refine ev_gff ?_ | refine ev_gtf ?_ | refine ev_gft ?_ | refine ev_gu ?_) | refine ev_bd rfl ?_ | refine ev_bd0 rfl ?_ | ((with_reducible refine ev_gB ?_ ?_) <;> intro h)) | ((with_reducible refine eB ?_); first | ((with_reducible first | refine ev_lss ?_ ?_ | refine ev_leq ?_ ?_ | refine ev_eql ?_ ?_ | refine ev_neq ?_ ?_) <;> intro h <;> try (exfalso; omega)) | ((with_reducible refine ev_add ?_ ?_); · omega) | refine ev_bd rfl ?_ | refine ev_bd0 rfl ?_) | ((with_reducible refine eL ?_); first | ((with_reducible refine ev_lenm ?_ ?_); · rfl) | refine ev_lenom rfl rfl ?_ | refine ev_lenoc rfl rfl rfl ?_ | refine ev_lenc rfl rfl ?_ | refine ev_leno rfl rfl ?_ | refine ev_slen rfl ?_ | refine ev_bd rfl ?_ | refine ev_bd0 rfl ?_) | ((with_reducible refine eC ?_); first | ((refine ev_callN (s_pick hb (by omega) _ (by omega)) rfl rfl ?_ (fun _ => rfl) ?_); (· first | exact .inl rfl | exact .inr (fun _ => rfl)); (first | (have q0 := z3; clear q0; intro z4 hz4) | (have q0 := z2; clear q0; intro z3 hz3) | (have q0 := z; clear q0; intro z2 hz2) | (intro z hz)))) | ((with_reducible refine eA ?_); first | (refine ev_app rfl rfl rfl rfl rfl ?_ ?_; · first | decide | (simp only [List.length_append, List.length_cons, List.length_nil, List.length_map, List.length_take, List.length_drop]; omega))) | ((with_reducible refine eK ?_); first | (with_reducible first | refine ev_ct ?_ | refine ev_cf ?_) | ((with_reducible refine ev_cond ?_ ?_) <;> intro h)) | ((with_reducible refine eO ?_); first | refine ev_bd rfl ?_ | (refine ev_bdB rfl ?_ ?_ <;> intro h <;> try (exfalso; simp_all; done)) | refine ev_bd0 rfl ?_ | (refine ev_ldz rfl rfl rfl ?_ ?_ ?_; (· simp); (· first | omega | (simp only [List.length_cons, List.length_nil, List.length_map, List.length_append]; omega)); intro w)) | ((with_reducible refine eD ?_); first | refine ev_bd rfl ?_ | refine ev_bd0 rfl ?_ | ((with_reducible refine ev_pickB ?_ ?_) <;> intro h)) | ((with_reducible refine ev_dchk ?_ ?_); · intro _; rfl) | ((with_reducible refine eH ?_); first | refine ev_gcB rfl ?_) | ((with_reducible refine ih ?_ _ _ (D ++ [⟨k, 1 + z2⟩]) _ _ ?_ ?_ ?_ ?_ ?_ ?_) <;> (first | omega | assumption | ((refine depsIn_app hdi ?_; dsimp only; omega)) | (simp only [*, List.map_append, List.length_append, List.length_cons, List.length_nil, List.map_cons, List.map_nil]; done) | (simp_all; done) | (simp_all; omega))) | ((with_reducible refine ih ?_ _ _ D _ _ ?_ hL ?_ ?_ ?_ hdi) <;> (first | omega | assumption | (simp only [*, List.map_append, List.length_append, List.length_cons, List.length_nil, List.map_cons, List.map_nil]; done) | (simp_all; done) | (simp_all; omega))) | ((with_reducible refine UJ96_10 ?_); (unfold JB96_10)) | (with_reducible first | refine UL96_9 ?_ | refine VL96_9 ?_) | refine ev_ret rfl ?_)
  all_goals exact ⟨⟨name, ver, F, D⟩, _, rfl, by rw [hL, hLF], hF, by show D.length ≤ 3; omega, by omega, by omega, rfl, hdi⟩
theorem s_l71Pkg_L4 {b : List Int} (hb : RdOK b) {p0 : Int} (hp0 : 0 ≤ p0 ∧ p0 < 700000000) (name ver : Int) : ∀ i : Nat, i ≤ 2 → ∀ (p a k : Int) (F : List TFile) (L : List SV) (c : Nat), k ≤ 2 - i → 0 ≤ a → a ≤ 4 + 3 * i → L = F.map eFile → F.length ≤ i → p0 ≤ p → p ≤ p0 + 2 + 2 * i →
    Ev (fun n => G96_4 (callF prg n) (n + 1) 1 (n + 1 - c) [.ptr 0 0, iI name, .ptr 1 0, .ptr 2 0, iI a, iI k] [rd b p, .box [iI 0, iI 0, .osl 3, .osl 4], .box [iI name, iI ver, .osl 5, .osl 6], .arr false 2 [], .arr false 2 [], .arr false 2 L, .arr false 2 []]) (QPkg b p0 name) := by
  refine up_ind ?_
  intro i hi ih p a k F L c hk ha0 ha hL hF h1 h2
  have hLl : L.length = F.length := by rw [hL, List.length_map]
  (refine UG96_4 _ ?_; unfold GB96_4)
  repeat' (first | ((with_reducible refine eG ?_); first | (with_reducible first | refine ev_gtt ?_ | refine ev_gff ?_ | refine ev_gtf ?_ | refine ev_gft ?_ | refine ev_gu ?_) | refine ev_bd rfl ?_ | refine ev_bd0 rfl ?_ | ((with_reducible refine ev_gB ?_ ?_) <;> intro h)) | ((with_reducible refine eB ?_); first | ((with_reducible first | refine ev_lss ?_ ?_ | refine ev_gtr ?_ ?_) <;> intro h <;> try (exfalso; omega)) | ((with_reducible first | refine ev_add ?_ ?_ | refine ev_sub ?_ ?_); · omega) | refine ev_bd rfl ?_ | refine ev_bd0 rfl ?_) | ((with_reducible refine eC ?_); first | ((refine ev_callN (s_pick hb (by omega) _ (by omega)) rfl rfl ?_ (fun _ => rfl) ?_); (· first | exact .inl rfl | exact .inr (fun _ => rfl)); (first | (have q0 := z3; clear q0; intro z4 hz4) | (have q0 := z2; clear q0; intro z3 hz3) | (have q0 := z; clear q0; intro z2 hz2) | (intro z hz)))) | ((with_reducible refine eA ?_); first | (refine ev_app rfl rfl rfl rfl rfl ?_ ?_; · first | decide | (simp only [List.length_append, List.length_cons, List.length_nil, List.length_map, List.length_take, List.length_drop]; omega))) | ((with_reducible refine eK ?_); first | (with_reducible first | refine ev_ct ?_ | refine ev_cf ?_) | ((with_reducible refine ev_cond ?_ ?_) <;> intro h)) | ((with_reducible refine eO ?_); first | refine ev_bd rfl ?_ | (refine ev_bdB rfl ?_ ?_ <;> intro h <;> try (exfalso; simp_all; done)) | refine ev_bd0 rfl ?_ | (refine ev_ldz rfl rfl rfl ?_ ?_ ?_; (· simp); (· first | omega | (simp only [List.length_cons, List.length_nil, List.length_map, List.length_append]; omega)); intro w)) | ((with_reducible refine eD ?_); first | refine ev_bd rfl ?_ | refine ev_bd0 rfl ?_ | ((with_reducible refine ev_pickB ?_ ?_) <;> intro h)) | ((with_reducible refine ev_dchk ?_ ?_); · intro _; rfl) | ((with_reducible refine eH ?_); first | refine ev_gcB rfl ?_) | ((with_reducible refine ih ?_ _ _ _ (F ++ [⟨a, z⟩]) _ _ ?_ ?_ ?_ ?_ ?_ ?_ ?_) <;> (first | omega | assumption | (simp only [*, List.map_append, List.length_append, List.length_cons, List.length_nil, List.map_cons, List.map_nil]; done) | (simp_all; done) | (simp_all; omega))) | (with_reducible first | refine UL96_4 ?_ | refine VL96_4 ?_) | (with_reducible first | refine UL96_9 ?_ | refine VL96_9 ?_) | ((with_reducible refine s_l71Pkg_L9 hb hp0 name ver F _ hL ?_ 0 ?_ _ _ [] _ _ ?_ ?_ ?_ ?_ ?_ depsIn_nil) <;> (first | omega | assumption | (simp only [*, List.map_append, List.length_append, List.length_cons, List.length_nil, List.map_cons, List.map_nil]; done) | (simp_all; done) | (simp_all; omega))) | refine ev_ret rfl ?_)
theorem s_l71Pkg {b : List Int} (hb : RdOK b) {p : Int} (hp : 0 ≤ p ∧ p < 700000000) (name ver : Int) : Ev (fun m => callF prg m 96 [.ptr 0 0, iI name, iI ver] [rd b p]) (QPkg b p name) := by
  (refine U96 (nl := 1) rfl ?_; unfold B96)
  repeat' (first | ((with_reducible refine eC ?_); first | ((refine ev_callN (s_pick hb (by omega) _ (by omega)) rfl rfl ?_ (fun _ => rfl) ?_); (· first | exact .inl rfl | exact .inr (fun _ => rfl)); (first | (have q0 := z3; clear q0; intro z4 hz4) | (have q0 := z2; clear q0; intro z3 hz3) | (have q0 := z; clear q0; intro z2 hz2) | (intro z hz)))) | ((with_reducible refine eD ?_); first | refine ev_bd rfl ?_ | refine ev_bd0 rfl ?_) | ((with_reducible refine eH ?_); first | refine ev_gcB rfl ?_) | (with_reducible first | refine UL96_4 ?_ | refine VL96_4 ?_) | ((with_reducible refine s_l71Pkg_L4 hb hp name ver 0 ?_ _ _ _ [] _ _ ?_ ?_ ?_ ?_ ?_ ?_ ?_) <;> (first | omega | assumption | (simp only [*, List.map_append, List.length_append, List.length_cons, List.length_nil, List.map_cons, List.map_nil]; done) | (simp_all; done) | (simp_all; omega))) | refine ev_ret rfl ?_)
  all_goals trace_state

/-! ### packages in order -/
def pless (a b : TPkg) : Prop := a.name < b.name ∨ a.name = b.name ∧ a.ver < b.ver
instance (a b : TPkg) : Decidable (pless a b) := by unfold pless; exact inferInstance
def withP (s : List TPkg) (p : TPkg) : List TPkg := (s.filter fun x => decide (pless x p)) ++ [p] ++ (s.filter fun x => decide (pless p x))
theorem withP_len (s : List TPkg) (p : TPkg) : (withP s p).length ≤ s.length + 1 := by
  have key : ∀ s : List TPkg, (s.filter fun x => decide (pless x p)).length + (s.filter fun x => decide (pless p x)).length ≤ s.length := by
    intro s
    induction s with
    | nil => simp
    | cons x xs ih =>
      by_cases h1 : pless x p
      · have h2 : ¬ pless p x := by unfold pless at *; omega
        simp [h1, h2]; omega
      · by_cases h2 : pless p x
        · simp [h1, h2]; omega
        · simp [h1, h2]; omega
  have := key s
  simp only [withP, List.length_append, List.length_cons, List.length_nil]
  omega

/-- Few files, few needs. -/
def small (x : TPkg) : Prop := x.files.length ≤ 10 ∧ x.deps.length ≤ 10
def smalls (s : List TPkg) : Prop := ∀ x, x ∈ s → small x
theorem smalls_nil : smalls [] := fun x h => by cases h
theorem smalls_with {s : List TPkg} {p : TPkg} (hs : smalls s) (hp : small p) : smalls (withP s p) := by
  intro x hx
  simp only [withP, List.mem_append, List.mem_filter, List.mem_singleton] at hx
  rcases hx with (hx | rfl) | hx
  · exact hs x hx.1
  · exact hp
  · exact hs x hx.1

/-- Names that are names. -/
def tames (s : List TPkg) : Prop := ∀ x, x ∈ s → (1 ≤ x.name ∧ x.name ≤ 4) ∧ depsIn x.deps
theorem tames_nil : tames [] := fun x h => by cases h
theorem tames_with {s : List TPkg} {p : TPkg} (hs : tames s) (hp : (1 ≤ p.name ∧ p.name ≤ 4) ∧ depsIn p.deps) : tames (withP s p) := by
  intro x hx
  simp only [withP, List.mem_append, List.mem_filter, List.mem_singleton] at hx
  rcases hx with (hx | rfl) | hx
  · exact hs x hx.1
  · exact hp
  · exact hs x hx.1

theorem s_l12Find_L (s : List TPkg) (hs : s.length ≤ 2000000) (name ver : Int) : ∀ i, i ≤ s.length → (∀ j, j < i → ¬ ((nth s j).name = name ∧ (nth s j).ver = ver)) → ∀ (k : Int) (c : Nat), k = i →
    Ev (fun n => L97_2 (callF prg n) (n + 1) 0 (n + 1 - c) (.sl 4 (s.map ePkg)) (iI name) (iI ver) (iI k) []) (fun x os => ∃ z : Int, x = iI z ∧ os = [] ∧ ((z = -1 ∧ ∀ j, j < s.length → ¬ ((nth s j).name = name ∧ (nth s j).ver = ver)) ∨ (0 ≤ z ∧ z < s.length ∧ (nth s z.toNat).name = name ∧ (nth s z.toNat).ver = ver))) := by
  refine up_ind ?_
  intro i hi ih hp k c hk
  subst hk
  (refine UL97_2 ?_; unfold LB97_2)
  repeat' (first | ((with_reducible refine eG ?_); first | (with_reducible first | refine ev_gtt ?_ | refine ev_gff ?_ | refine ev_gtf ?_ | refine ev_gft ?_ | refine ev_gu ?_) | refine ev_bd rfl ?_ | refine ev_bd0 rfl ?_ | ((with_reducible refine ev_gB ?_ ?_) <;> intro h)) | ((with_reducible refine eB ?_); first | ((with_reducible first | refine ev_lss ?_ ?_ | refine ev_eql ?_ ?_) <;> intro h <;> try (exfalso; omega)) | ((with_reducible refine ev_add ?_ ?_); · omega) | refine ev_bd rfl ?_ | refine ev_bd0 rfl ?_) | ((with_reducible refine eL ?_); first | ((with_reducible refine ev_lenm ?_ ?_); · rfl) | refine ev_lenom rfl rfl ?_ | refine ev_lenoc rfl rfl rfl ?_ | refine ev_lenc rfl rfl ?_ | refine ev_leno rfl rfl ?_ | refine ev_slen rfl ?_ | refine ev_bd rfl ?_ | refine ev_bd0 rfl ?_) | ((with_reducible refine eI ?_); first | ((with_reducible refine ev_idx ?_ ?_ ?_); (· rfl); · omega) | (refine ev_idxo rfl rfl ?_ ?_; (· first | omega | (simp only [List.length_cons, List.length_nil, List.length_map, List.length_append]; omega))) | refine ev_bd rfl ?_ | refine ev_bd0 rfl ?_) | ((with_reducible refine eK ?_); first | (with_reducible first | refine ev_ct ?_ | refine ev_cf ?_) | ((with_reducible refine ev_cond ?_ ?_) <;> intro h)) | ((with_reducible refine eO ?_); first | refine ev_bd rfl ?_ | (refine ev_bdB rfl ?_ ?_ <;> intro h <;> try (exfalso; simp_all; done)) | refine ev_bd0 rfl ?_) | ((with_reducible refine eD ?_); first | refine ev_bd rfl ?_ | refine ev_bd0 rfl ?_ | ((with_reducible refine ev_pickB ?_ ?_) <;> intro h)) | ((with_reducible refine ih ?_ (all_step hp ?_) _ _ ?_) <;> (first | omega | assumption | (((try simp only [Int.toNat_natCast, tn_sub1, tn_add1] at *); omega)) | (simp only [*, List.map_append, List.length_append, List.length_cons, List.length_nil, List.map_cons, List.map_nil]; done) | (simp_all; done) | (simp_all; omega))) | refine ev_ret rfl ?_)
  all_goals first
    | exact ⟨_, rfl, rfl, .inr ⟨by omega, by omega, by omega, by omega⟩⟩
    | exact ⟨_, rfl, rfl, .inl ⟨rfl, fun j hj => hp j (by omega)⟩⟩
    | trace_state
theorem s_l12Find (s : List TPkg) (hs : s.length ≤ 2000000) (name ver : Int) : ∃ z : Int, ((z = -1 ∧ ∀ j, j < s.length → ¬ ((nth s j).name = name ∧ (nth s j).ver = ver)) ∨ (0 ≤ z ∧ z < s.length ∧ (nth s z.toNat).name = name ∧ (nth s z.toNat).ver = ver)) ∧
    Ex (fun m => callF prg m 97 [.sl 4 (s.map ePkg), iI name, iI ver] []) (iI z) [] := by
  have key : Ev (fun m => callF prg m 97 [.sl 4 (s.map ePkg), iI name, iI ver] []) (fun x os => ∃ z : Int, x = iI z ∧ os = [] ∧ ((z = -1 ∧ ∀ j, j < s.length → ¬ ((nth s j).name = name ∧ (nth s j).ver = ver)) ∨ (0 ≤ z ∧ z < s.length ∧ (nth s z.toNat).name = name ∧ (nth s z.toNat).ver = ver))) := by
    (refine U97 (nl := 0) rfl ?_; unfold B97)
    exact s_l12Find_L s hs name ver 0 (by omega) (fun j hj => by omega) 0 0 rfl
  obtain ⟨x, os, ⟨z, rfl, rfl, hz⟩, he⟩ := key
  exact ⟨z, hz, he⟩

theorem s_l3Less' (n v m w : Int) : Ex (fun k => callF prg k 102 [iI n, iI v, iI m, iI w] []) (bB (decide (n < m ∨ n = m ∧ v < w))) [] := by
  refine ev_is.1 ?_
  (refine U102 (nl := 0) rfl ?_; unfold B102)
  repeat' (first | ((with_reducible refine eG ?_); first | (with_reducible first | refine ev_gtt ?_ | refine ev_gff ?_ | refine ev_gtf ?_ | refine ev_gft ?_ | refine ev_gu ?_) | refine ev_bd rfl ?_ | refine ev_bd0 rfl ?_ | ((with_reducible refine ev_gB ?_ ?_) <;> intro h)) | ((with_reducible refine eB ?_); first | ((with_reducible first | refine ev_lss ?_ ?_ | refine ev_eql ?_ ?_) <;> intro h <;> try (exfalso; omega)) | refine ev_bd rfl ?_ | refine ev_bd0 rfl ?_) | ((with_reducible refine eD ?_); first | refine ev_bd rfl ?_ | refine ev_bd0 rfl ?_ | ((with_reducible refine ev_pickB ?_ ?_) <;> intro h)) | refine ev_ret rfl ?_)
  all_goals (refine ⟨congrArg (fun b => SV.v (Value.bool b)) ?_, rfl⟩; first | (simp_all []; done) | (simp_all []; omega) | (simp [] at *; omega) | (simp []; omega) | grind [] | trace_state)

theorem filt_step {α : Type} [Inhabited α] (P : α → Bool) {l : List α} {i : Nat} (hi : i < l.length) : (l.take (i + 1)).filter P = (l.take i).filter P ++ (if P (nth l i) = true then [nth l i] else []) := by
  have : l.take (i + 1) = l.take i ++ [nth l i] := by rw [List.take_add_one, get_nth hi]; rfl
  rw [this, List.filter_append]
  by_cases e : P (nth l i) = true <;> simp [e]
theorem filt_pos {α : Type} [Inhabited α] (P : α → Bool) {l : List α} {i : Nat} (hi : i < l.length) (h : P (nth l i) = true) : (l.take (i + 1)).filter P = (l.take i).filter P ++ [nth l i] := by
  rw [filt_step P hi, if_pos h]
theorem filt_neg {α : Type} [Inhabited α] (P : α → Bool) {l : List α} {i : Nat} (hi : i < l.length) (h : P (nth l i) = false) : (l.take (i + 1)).filter P = (l.take i).filter P := by
  rw [filt_step P hi, if_neg (by rw [h]; simp), List.append_nil]
theorem s_l12With_L9 (s : List TPkg) (p : TPkg) (hs : s.length ≤ 2000000) (A : List TPkg) (hA : A.length ≤ 2000001) : ∀ i, i ≤ s.length → ∀ (L : List SV) (k : Int) (c : Nat), k = i → L = (A ++ (s.take i).filter fun x => decide (pless p x)).map ePkg →
    Ev (fun n => G98_9 (callF prg n) (n + 1) 0 (n + 1 - c) [.sl 4 (s.map ePkg), .ptr 0 0, .osl 1, iI k] [.box [iI p.name, iI p.ver, .sl 2 (p.files.map eFile), .sl 2 (p.deps.map eDep)], .arr false 4 L])
      (Is (.osl 0) [.arr false 4 ((A ++ s.filter fun x => decide (pless p x)).map ePkg)]) := by
  refine up_ind ?_
  intro i hi ih L k c hk hL
  subst hk
  have hLl : L.length ≤ 5000000 := by
    rw [hL, List.length_map, List.length_append]
    have := List.length_filter_le (fun x => decide (pless p x)) (s.take i)
    have : (s.take i).length ≤ s.length := by simp; omega
    omega
  (refine UG98_9 _ ?_; unfold GB98_9)
  repeat' (first | ((with_reducible refine eB ?_); first | ((with_reducible refine ev_lss ?_ ?_) <;> intro h <;> try (exfalso; omega)) | ((with_reducible refine ev_add ?_ ?_); · omega) | refine ev_bd rfl ?_ | refine ev_bd0 rfl ?_) | ((with_reducible refine eL ?_); first | ((with_reducible refine ev_lenm ?_ ?_); · rfl) | refine ev_lenom rfl rfl ?_ | refine ev_lenoc rfl rfl rfl ?_ | refine ev_lenc rfl rfl ?_ | refine ev_leno rfl rfl ?_ | refine ev_slen rfl ?_ | refine ev_bd rfl ?_ | refine ev_bd0 rfl ?_) | ((with_reducible refine eI ?_); first | ((with_reducible refine ev_idx ?_ ?_ ?_); (· rfl); · omega) | (refine ev_idxo rfl rfl ?_ ?_; (· first | omega | (simp only [List.length_cons, List.length_nil, List.length_map, List.length_append]; omega))) | refine ev_bd rfl ?_ | refine ev_bd0 rfl ?_) | ((with_reducible refine eC ?_); first | ((refine ev_callD (s_l3Less' ..) rfl rfl ?_ rfl rfl ?_ ?_); (focus first | exact .inl rfl | exact .inr rfl | (refine .inr ?_; simp [flagC, ownF, hasSl3, hasSl1, SO.hasSl, List.all_map, flatSV, SV.cells, Function.comp_def]; done)); (all_goals (intro h)); (all_goals (try (exfalso; first | omega | exact h rfl | exact h ⟨rfl, rfl, rfl⟩))))) | ((with_reducible refine eA ?_); first | (refine ev_app rfl rfl rfl rfl rfl ?_ ?_; · first | decide | (simp only [List.length_append, List.length_cons, List.length_nil, List.length_map, List.length_take, List.length_drop]; omega))) | ((with_reducible refine eK ?_); first | (with_reducible first | refine ev_ct ?_ | refine ev_cf ?_) | ((with_reducible refine ev_cond ?_ ?_) <;> intro h)) | ((with_reducible refine eO ?_); first | refine ev_bd rfl ?_ | (refine ev_bdB rfl ?_ ?_ <;> intro h <;> try (exfalso; simp_all; done)) | refine ev_bd0 rfl ?_ | (refine ev_ldz rfl rfl rfl ?_ ?_ ?_; (· simp); (· first | omega | (simp only [List.length_cons, List.length_nil, List.length_map, List.length_append]; omega)); intro w)) | ((with_reducible refine eD ?_); first | refine ev_bd rfl ?_ | refine ev_bd0 rfl ?_) | ((with_reducible refine eH ?_); first | refine ev_gcB rfl ?_) | ((with_reducible refine UJ98_10 ?_); (unfold JB98_10)) | (with_reducible first | refine UL98_9 ?_ | refine VL98_9 ?_) | ((with_reducible refine ih ?_ _ _ _ ?_ ?_) <;> (first | omega | assumption | ((first | (rw [hL, filt_neg (fun x => decide (pless p x)) (l := s) (i := i) (by omega) (decide_eq_false h)]) | (rw [hL, filt_pos (fun x => decide (pless p x)) (l := s) (i := i) (by omega) (decide_eq_true h)]; simp only [List.map_append, List.append_assoc, List.map_cons, List.map_nil]; rfl))) | (simp only [*, List.map_append, List.length_append, List.length_cons, List.length_nil, List.map_cons, List.map_nil]; done) | (simp_all; done) | (simp_all; omega))) | refine ev_ret rfl ?_)
  exact ⟨rfl, by rw [hL, List.take_of_length_le (by omega)]⟩
theorem s_l12With_L3 (s : List TPkg) (p : TPkg) (hs : s.length ≤ 2000000) : ∀ i, i ≤ s.length → ∀ (L : List SV) (k : Int) (c : Nat), k = i → L = ((s.take i).filter fun x => decide (pless x p)).map ePkg →
    Ev (fun n => G98_3 (callF prg n) (n + 1) 0 (n + 1 - c) [.sl 4 (s.map ePkg), .ptr 0 0, .osl 1, iI k] [.box [iI p.name, iI p.ver, .sl 2 (p.files.map eFile), .sl 2 (p.deps.map eDep)], .arr false 4 L])
      (Is (.osl 0) [.arr false 4 ((withP s p).map ePkg)]) := by
  refine up_ind ?_
  intro i hi ih L k c hk hL
  subst hk
  have hFl : ((s.take i).filter fun x => decide (pless x p)).length ≤ 2000000 := by
    have := List.length_filter_le (fun x => decide (pless x p)) (s.take i)
    have : (s.take i).length ≤ s.length := by simp; omega
    omega
  have hLl : L.length ≤ 2000000 := by rw [hL, List.length_map]; exact hFl
  (refine UG98_3 _ ?_; unfold GB98_3)
  repeat' (first | ((with_reducible refine eB ?_); first | ((with_reducible refine ev_lss ?_ ?_) <;> intro h <;> try (exfalso; omega)) | ((with_reducible refine ev_add ?_ ?_); · omega) | refine ev_bd rfl ?_ | refine ev_bd0 rfl ?_) | ((with_reducible refine eL ?_); first | ((with_reducible refine ev_lenm ?_ ?_); · rfl) | refine ev_lenom rfl rfl ?_ | refine ev_lenoc rfl rfl rfl ?_ | refine ev_lenc rfl rfl ?_ | refine ev_leno rfl rfl ?_ | refine ev_slen rfl ?_ | refine ev_bd rfl ?_ | refine ev_bd0 rfl ?_) | ((with_reducible refine eI ?_); first | ((with_reducible refine ev_idx ?_ ?_ ?_); (· rfl); · omega) | (refine ev_idxo rfl rfl ?_ ?_; (· first | omega | (simp only [List.length_cons, List.length_nil, List.length_map, List.length_append]; omega))) | refine ev_bd rfl ?_ | refine ev_bd0 rfl ?_) | ((with_reducible refine eC ?_); first | ((refine ev_callD (s_l3Less' ..) rfl rfl ?_ rfl rfl ?_ ?_); (focus first | exact .inl rfl | exact .inr rfl | (refine .inr ?_; simp [flagC, ownF, hasSl3, hasSl1, SO.hasSl, List.all_map, flatSV, SV.cells, Function.comp_def]; done)); (all_goals (intro h)); (all_goals (try (exfalso; first | omega | exact h rfl | exact h ⟨rfl, rfl, rfl⟩))))) | ((with_reducible refine eA ?_); first | (refine ev_app rfl rfl rfl rfl rfl ?_ ?_; · first | decide | (simp only [List.length_append, List.length_cons, List.length_nil, List.length_map, List.length_take, List.length_drop]; omega))) | ((with_reducible refine eK ?_); first | (with_reducible first | refine ev_ct ?_ | refine ev_cf ?_) | ((with_reducible refine ev_cond ?_ ?_) <;> intro h)) | ((with_reducible refine eO ?_); first | refine ev_bd rfl ?_ | (refine ev_bdB rfl ?_ ?_ <;> intro h <;> try (exfalso; simp_all; done)) | refine ev_bd0 rfl ?_ | (refine ev_ldz rfl rfl rfl ?_ ?_ ?_; (· simp); (· first | omega | (simp only [List.length_cons, List.length_nil, List.length_map, List.length_append]; omega)); intro w)) | ((with_reducible refine eD ?_); first | refine ev_bd rfl ?_ | refine ev_bd0 rfl ?_) | ((with_reducible refine eH ?_); first | refine ev_gcB rfl ?_) | ((with_reducible refine UJ98_4 ?_); (unfold JB98_4)) | (with_reducible first | refine UL98_3 ?_ | refine VL98_3 ?_) | (with_reducible first | refine UL98_9 ?_ | refine VL98_9 ?_) | ((with_reducible refine ih ?_ _ _ _ ?_ ?_) <;> (first | omega | assumption | ((first | (rw [hL, filt_neg (fun x => decide (pless x p)) (l := s) (i := i) (by omega) (decide_eq_false h)]) | (rw [hL, filt_pos (fun x => decide (pless x p)) (l := s) (i := i) (by omega) (decide_eq_true h)]; simp only [List.map_append, List.append_assoc, List.map_cons, List.map_nil]; rfl))) | (simp only [*, List.map_append, List.length_append, List.length_cons, List.length_nil, List.map_cons, List.map_nil]; done) | (simp_all; done) | (simp_all; omega))) | refine ev_ret rfl ?_)
  refine s_l12With_L9 s p hs ((s.filter fun x => decide (pless x p)) ++ [p]) ?_ 0 (by omega) _ 0 _ rfl ?_
  · rw [List.length_append]
    have := List.length_filter_le (fun x => decide (pless x p)) s
    simp only [List.length_cons, List.length_nil]; omega
  · rw [hL, List.take_of_length_le (by omega)]
    simp only [List.take_zero, List.filter_nil, List.append_nil, List.map_append, List.map_cons, List.map_nil]
theorem s_l12With (s : List TPkg) (p : TPkg) (hs : s.length ≤ 2000000) : Ex (fun m => callF prg m 98 [.sl 4 (s.map ePkg), ePkg p] []) (.osl 0) [.arr false 4 ((withP s p).map ePkg)] := by
  refine ev_is.1 ?_
  (refine U98 (nl := 0) rfl ?_; unfold B98)
  repeat' (first | ((with_reducible refine eD ?_); first | refine ev_bd rfl ?_ | refine ev_bd0 rfl ?_) | ((with_reducible refine eH ?_); first | refine ev_gcB rfl ?_) | (with_reducible first | refine UL98_3 ?_ | refine VL98_3 ?_) | ( exact s_l12With_L3 s p hs 0 (by omega) _ 0 _ rfl (by simp)) | refine ev_ret rfl ?_)

/-- Drawn packages: few, and small. -/
def QPkgs (b : List Int) (p : Int) : SV → List SO → Prop := fun x os => ∃ (s : List TPkg) (q : Int), x = .osl 1 ∧ os = [rd b q, .arr false 4 (s.map ePkg)] ∧ s.length ≤ 8 ∧ smalls s ∧ p ≤ q ∧ q ≤ p + 300 ∧ tames s
theorem s_l71Pkgs_L {b : List Int} (hb : RdOK b) {p0 : Int} (hp0 : 0 ≤ p0 ∧ p0 < 600000000) : ∀ i : Nat, i ≤ 8 → ∀ (p k : Int) (s : List TPkg) (L : List SV) (c : Nat), k ≤ 8 - i → L = s.map ePkg → s.length ≤ i → smalls s → p0 ≤ p → p ≤ p0 + 1 + 35 * i → tames s →
    Ev (fun n => G68_3 (callF prg n) (n + 1) 1 (n + 1 - c) [.ptr 0 0, .osl 1, iI k] [rd b p, .arr false 4 L]) (QPkgs b p0) := by
  refine up_ind ?_
  intro i hi ih p k s L c hk hL hs hsm h1 h2 htm
  subst hL
  (refine UG68_3 _ ?_; unfold GB68_3)
  repeat' (first | ((with_reducible refine eB ?_); first | ((with_reducible first | refine ev_lss ?_ ?_ | refine ev_gtr ?_ ?_) <;> intro h <;> try (exfalso; omega)) | ((with_reducible first | refine ev_add ?_ ?_ | refine ev_sub ?_ ?_); · omega) | refine ev_bd rfl ?_ | refine ev_bd0 rfl ?_) | ((with_reducible refine eC ?_); first | ((refine ev_callN (s_pick hb (by omega) _ (by omega)) rfl rfl ?_ (fun _ => rfl) ?_); (· first | exact .inl rfl | exact .inr (fun _ => rfl)); (first | (have q0 := z3; clear q0; intro z4 hz4) | (have q0 := z2; clear q0; intro z3 hz3) | (have q0 := z; clear q0; intro z2 hz2) | (intro z hz))) | ((refine ev_callE (s_l71Pkg hb (by omega) _ _) rfl rfl ?_); ((rintro _ _ ⟨t, q, rfl, rfl, hf, hd, hq1, hq2, hnm, hdi⟩) <;> (first | (refine ev_post ?_ rfl ?_; (focus first | exact .inl rfl | exact .inr rfl | (refine .inr ?_; simp [flagC, ownF, hasSl3, hasSl1, SO.hasSl, List.all_map, flatSV, SV.cells, Function.comp_def]; done))) | (refine ev_postF ?_ rfl ?_; (focus first | rfl | (simp [flagC, ownF, hasSl3, hasSl1, SO.hasSl, List.all_map, flatSV, SV.cells, Function.comp_def]; done)))))) | ((refine ev_callN (s_l12Find _ (by omega) _ _) rfl rfl ?_ (fun _ => rfl) ?_); (· first | exact .inl rfl | exact .inr (fun _ => rfl)); (first | (have q0 := z3; clear q0; intro z4 hz4) | (have q0 := z2; clear q0; intro z3 hz3) | (have q0 := z; clear q0; intro z2 hz2) | (intro z hz))) | ((refine ev_callF (s_l12With s t (by omega)) rfl rfl ?_ rfl ?_); (· first | rfl | (simp [flagC, ownF, hasSl3, hasSl1, SO.hasSl, List.all_map, flatSV, SV.cells, Function.comp_def]; done)))) | ((with_reducible refine eK ?_); first | (with_reducible first | refine ev_ct ?_ | refine ev_cf ?_) | ((with_reducible refine ev_cond ?_ ?_) <;> intro h)) | ((with_reducible refine eO ?_); first | refine ev_bd rfl ?_ | (refine ev_bdB rfl ?_ ?_ <;> intro h <;> try (exfalso; simp_all; done)) | refine ev_bd0 rfl ?_) | ((with_reducible refine eD ?_); first | refine ev_bd rfl ?_ | refine ev_bd0 rfl ?_) | ((with_reducible refine eH ?_); first | refine ev_gcB rfl ?_) | ((with_reducible refine ih ?_ _ _ (withP s t) _ _ ?_ ?_ ?_ ?_ ?_ ?_ ?_) <;> (first | omega | assumption | ((first | (refine smalls_with hsm ?_; constructor <;> omega) | (refine tames_with htm ⟨?_, hdi⟩; omega) | ((have := withP_len s t); omega))) | (simp only [*, List.map_append, List.length_append, List.length_cons, List.length_nil, List.map_cons, List.map_nil]; done) | (simp_all; done) | (simp_all; omega))) | ((with_reducible refine ih ?_ _ _ s _ _ ?_ ?_ ?_ hsm ?_ ?_ htm) <;> (first | omega | assumption | (simp only [*, List.map_append, List.length_append, List.length_cons, List.length_nil, List.map_cons, List.map_nil]; done) | (simp_all; done) | (simp_all; omega))) | ((with_reducible refine UJ68_4 ?_); (unfold JB68_4)) | (with_reducible first | refine UL68_3 ?_ | refine VL68_3 ?_) | refine ev_ret rfl ?_)
  exact ⟨s, _, rfl, rfl, by omega, hsm, by omega, by omega, htm⟩
theorem s_l71Pkgs {b : List Int} (hb : RdOK b) {p : Int} (hp : 0 ≤ p ∧ p < 600000000) : Ev (fun m => callF prg m 68 [.ptr 0 0] [rd b p]) (QPkgs b p) := by
  (refine U68 (nl := 1) rfl ?_; unfold B68)
  repeat' (first | ((with_reducible refine eC ?_); first | ((refine ev_callN (s_pick hb (by omega) _ (by omega)) rfl rfl ?_ (fun _ => rfl) ?_); (· first | exact .inl rfl | exact .inr (fun _ => rfl)); (first | (have q0 := z3; clear q0; intro z4 hz4) | (have q0 := z2; clear q0; intro z3 hz3) | (have q0 := z; clear q0; intro z2 hz2) | (intro z hz)))) | ((with_reducible refine eD ?_); first | refine ev_bd rfl ?_ | refine ev_bd0 rfl ?_) | ((with_reducible refine eH ?_); first | refine ev_gcB rfl ?_) | (with_reducible first | refine UL68_3 ?_ | refine VL68_3 ?_) | ((with_reducible refine s_l71Pkgs_L hb hp 0 ?_ _ _ [] _ _ ?_ ?_ ?_ smalls_nil ?_ ?_ tames_nil) <;> (first | omega | assumption | (simp only [*, List.map_append, List.length_append, List.length_cons, List.length_nil, List.map_cons, List.map_nil]; done) | (simp_all; done) | (simp_all; omega))) | refine ev_ret rfl ?_)

end Go.Proofs.Ytjfegdlgepbjoaa
