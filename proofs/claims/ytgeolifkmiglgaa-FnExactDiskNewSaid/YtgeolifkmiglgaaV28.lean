/- What is at each place. -/
import Derived.Test.YtgeolifkmiglgaaV27
import Derived.KernelRfl
namespace Go.Proofs.Ytgeolifkmiglgaa
open Go
set_option linter.unusedVariables false
set_option linter.unusedSimpArgs false
set_option maxHeartbeats 4000000
set_option maxRecDepth 100000

def putF (w : List Int) (F : List TFile) : List Int := F.foldl (fun w f => w.set f.path.toNat f.data) w
def none6 : List Int := [-1, -1, -1, -1, -1, -1]
def filesTo (s : List TPkg) (i : Nat) : List Int := (s.take i).foldl (fun w p => putF w p.files) none6
def filesP (s : List TPkg) : List Int := s.foldl (fun w p => putF w p.files) none6
def planFiles (s : List TPkg) : List Int := if planOk s = true then filesP s else []
theorem putF_step {w : List Int} {F : List TFile} {j : Nat} (h : j < F.length) : putF w (F.take (j + 1)) = (putF w (F.take j)).set (nth F j).path.toNat (nth F j).data := by
  unfold putF; rw [take_nth h, List.foldl_append]; rfl
theorem filesTo_step {s : List TPkg} {i : Nat} (h : i < s.length) : filesTo s (i + 1) = putF (filesTo s i) (nth s i).files := by
  unfold filesTo; rw [take_nth h, List.foldl_append]; rfl
theorem filesTo_all {s : List TPkg} : filesTo s s.length = filesP s := by unfold filesTo filesP; rw [List.take_length]
theorem putF_len (w : List Int) (F : List TFile) : (putF w F).length = w.length := by
  unfold putF
  induction F generalizing w with
  | nil => rfl
  | cons f F ih => rw [List.foldl_cons, ih, List.length_set]
theorem filesTo_len (s : List TPkg) (i : Nat) : (filesTo s i).length = 6 := by
  unfold filesTo
  generalize s.take i = r
  have key : ∀ (r : List TPkg) (w : List Int), (r.foldl (fun w p => putF w p.files) w).length = w.length := by
    intro r
    induction r with
    | nil => intro w; rfl
    | cons p r ih => intro w; rw [List.foldl_cons, ih, putF_len]
  rw [key]; rfl
theorem filesP_len (s : List TPkg) : (filesP s).length = 6 := by rw [← filesTo_all]; exact filesTo_len _ _
/-- All places are places. -/
def pathsIn (s : List TPkg) : Prop := ∀ i, i < s.length → ∀ j, j < (nth s i).files.length → 0 ≤ (nth (nth s i).files j).path ∧ (nth (nth s i).files j).path ≤ 5
theorem plan_paths {s : List TPkg} (h : planOk s = true) : pathsIn s := fun i hi j hj => by
  have h1 := (storeOk_iff.1 (planOk_iff.1 h).1 i hi).1
  have h2 := (pkg_files h1).2 j hj
  unfold fileAt at h2; omega

theorem s_l13Files_L10 (s : List TPkg) (hs : s.length ≤ 2000000) (hp0 : PL s) (hpt : pathsIn s) {Q : SV → List SO → Prop} (m7 : Nat → Nat) (i : Nat) (hi : i < s.length) (w0 : List Int) (hw0 : w0.length = 6)
    (hq : Ev (fun n => L74_7 (callF prg n) (n + 1) 0 (m7 n) (.sl 4 (s.map ePkg)) (.osl 1) (iI ((i : Int) + 1)) [.arr false 1 [], .arr false 1 ((putF w0 (nth s i).files).map iI)]) Q) : ∀ j, j ≤ (nth s i).files.length → ∀ (w : List Int), w = putF w0 ((nth s i).files.take j) → ∀ (k : Int) (c : Nat), k = j →
    Ev (fun n => L74_10 (callF prg n) (n + 1) 0 (m7 n) (n + 1 - c) (.sl 4 (s.map ePkg)) (.osl 1) (iI i) (iI k) [.arr false 1 [], .arr false 1 (w.map iI)]) Q := by
  have hpi := hp0 i
  have hpti := hpt i hi
  refine up_ind ?_
  intro j hj ih w hw k c hk
  subst hk
  have hwl : w.length = 6 := by rw [hw, putF_len, hw0]
  have hptj := hpti j
  have hqe : j = (nth s i).files.length → Ev (fun n => L74_7 (callF prg n) (n + 1) 0 (m7 n) (.sl 4 (s.map ePkg)) (.osl 1) (iI ((i : Int) + 1)) [.arr false 1 [], .arr false 1 (w.map iI)]) Q := fun e => by
    rw [hw, e, List.take_length]; exact hq
  (refine UL74_10 ?_; unfold LB74_10)
  repeat' (first | ((with_reducible refine eB ?_); first | ((with_reducible refine ev_lss ?_ ?_) <;> intro h <;> try (exfalso; omega)) | ((with_reducible refine ev_add ?_ ?_); · omega) | refine ev_bd rfl ?_ | refine ev_bd0 rfl ?_) | ((with_reducible refine eL ?_); first | ((with_reducible refine ev_lenm ?_ ?_); · rfl) | refine ev_lenom rfl rfl ?_ | refine ev_lenfm rfl rfl ?_ | refine ev_lenoc rfl rfl rfl ?_ | refine ev_lenc rfl rfl ?_ | refine ev_leno rfl rfl ?_ | refine ev_slen rfl ?_ | refine ev_bd rfl ?_ | refine ev_bd0 rfl ?_) | ((with_reducible refine eI ?_); first | ((with_reducible refine ev_idxn ?_ ?_ ?_); (· rfl); · omega) | (refine ev_idxon rfl rfl ?_ ?_; (· first | omega | (simp only [List.length_cons, List.length_nil, List.length_map, List.length_append]; omega))) | (refine ev_idxfn rfl rfl ?_ ?_; (focus omega)) | ((with_reducible refine ev_idx ?_ ?_ ?_); (· rfl); · omega) | (refine ev_idxo rfl rfl ?_ ?_; (· first | omega | (simp only [List.length_cons, List.length_nil, List.length_map, List.length_append]; omega))) | (refine ev_idxf rfl rfl ?_ ?_; (focus omega)) | refine ev_bd rfl ?_ | refine ev_bd0 rfl ?_) | ((with_reducible refine eK ?_); first | (with_reducible first | refine ev_ct ?_ | refine ev_cf ?_) | ((with_reducible refine ev_cond ?_ ?_) <;> intro h)) | ((with_reducible refine eO ?_); first | refine ev_bd rfl ?_ | (refine ev_bdB rfl ?_ ?_ <;> intro h <;> try (exfalso; simp_all; done)) | refine ev_bd0 rfl ?_ | (refine ev_ldm rfl ?_ rfl ?_; (focus omega)) | (refine ev_ldmB rfl ?_ rfl ?_ ?_; (focus omega); (all_goals intro h))) | ((with_reducible refine eD ?_); first | refine ev_bd rfl ?_ | refine ev_bd0 rfl ?_ | ( (refine ev_sto (f := iI) (a := (nth (nth s i).files j).data) rfl rfl rfl rfl rfl rfl rfl rfl ?_ rfl ?_; (focus omega)))) | ((with_reducible refine ih ?_ _ ?_ _ _ ?_) <;> (first | omega | assumption | ((rw [putF_step (by omega), ← hw])) | (simp only [*, List.map_append, List.length_append, List.length_cons, List.length_nil, List.map_cons, List.map_nil]; done) | (simp_all; done) | (simp_all; omega))) | ( exact hqe (by omega)) | refine ev_ret rfl ?_)
theorem s_l13Files_L7 (s : List TPkg) (hs : s.length ≤ 2000000) (hp0 : PL s) (hpt : pathsIn s) : ∀ i, i ≤ s.length → ∀ (w : List Int), w = filesTo s i → ∀ (k : Int) (c : Nat), k = i →
    Ev (fun n => L74_7 (callF prg n) (n + 1) 0 (n + 1 - c) (.sl 4 (s.map ePkg)) (.osl 1) (iI k) [.arr false 1 [], .arr false 1 (w.map iI)]) (Is (.osl 0) [.arr false 1 ((filesP s).map iI)]) := by
  refine up_ind ?_
  intro i hi ih w hw k c hk
  subst hk
  (refine UL74_7 ?_; unfold LB74_7)
  repeat' (first | ((with_reducible refine eB ?_); first | ((with_reducible refine ev_lss ?_ ?_) <;> intro h <;> try (exfalso; omega)) | refine ev_bd rfl ?_ | refine ev_bd0 rfl ?_) | ((with_reducible refine eL ?_); first | ((with_reducible refine ev_lenm ?_ ?_); · rfl) | refine ev_lenom rfl rfl ?_ | refine ev_lenfm rfl rfl ?_ | refine ev_lenoc rfl rfl rfl ?_ | refine ev_lenc rfl rfl ?_ | refine ev_leno rfl rfl ?_ | refine ev_slen rfl ?_ | refine ev_bd rfl ?_ | refine ev_bd0 rfl ?_) | ((with_reducible refine eK ?_); first | (with_reducible first | refine ev_ct ?_ | refine ev_cf ?_) | ((with_reducible refine ev_cond ?_ ?_) <;> intro h)) | ((with_reducible refine eD ?_); first | refine ev_bd rfl ?_ | refine ev_bd0 rfl ?_) | ( exact s_l13Files_L10 s hs hp0 hpt _ i (by omega) w (by rw [hw]; exact filesTo_len _ _) (ih (by omega) _ (by rw [filesTo_step (by omega), hw]) _ _ rfl) 0 (by omega) w rfl 0 0 rfl) | refine ev_ret rfl ?_)
  all_goals exact ⟨rfl, by rw [hw, show i = s.length by omega, filesTo_all]⟩
theorem s_l13Files (s : List TPkg) (hs : s.length ≤ 2000000) (hp0 : PL s) (hpt : pathsIn s) : Ex (fun m => callF prg m 74 [.sl 4 (s.map ePkg)] []) (.osl 0) [.arr false 1 ((filesP s).map iI)] := by
  refine ev_is.1 ?_
  (refine U74 (nl := 0) rfl ?_; unfold B74)
  repeat' (first | ((with_reducible refine eB ?_); first | ((with_reducible refine ev_lss ?_ ?_) <;> intro h <;> try (exfalso; omega)) | ((with_reducible refine ev_add ?_ ?_); · omega) | refine ev_bd rfl ?_ | refine ev_bd0 rfl ?_) | ((with_reducible refine eL ?_); first | ((with_reducible refine ev_lenm ?_ ?_); · rfl) | refine ev_lenom rfl rfl ?_ | refine ev_lenfm rfl rfl ?_ | refine ev_lenoc rfl rfl rfl ?_ | refine ev_lenc rfl rfl ?_ | refine ev_leno rfl rfl ?_ | refine ev_slen rfl ?_ | refine ev_bd rfl ?_ | refine ev_bd0 rfl ?_) | ((with_reducible refine eI ?_); first | ((with_reducible refine ev_idxn ?_ ?_ ?_); (· rfl); · omega) | (refine ev_idxon rfl rfl ?_ ?_; (· first | omega | (simp only [List.length_cons, List.length_nil, List.length_map, List.length_append]; omega))) | (refine ev_idxfn rfl rfl ?_ ?_; (focus omega)) | ((with_reducible refine ev_idx ?_ ?_ ?_); (· rfl); · omega) | (refine ev_idxo rfl rfl ?_ ?_; (· first | omega | (simp only [List.length_cons, List.length_nil, List.length_map, List.length_append]; omega))) | (refine ev_idxf rfl rfl ?_ ?_; (focus omega)) | refine ev_bd rfl ?_ | refine ev_bd0 rfl ?_) | ((with_reducible refine eK ?_); first | (with_reducible first | refine ev_ct ?_ | refine ev_cf ?_) | ((with_reducible refine ev_cond ?_ ?_) <;> intro h)) | ((with_reducible refine eD ?_); first | refine ev_bd rfl ?_ | refine ev_bd0 rfl ?_) | ((with_reducible first | refine UL74_3 ?_ | refine VL74_3 ?_); (unfold LB74_3)) | ( exact s_l13Files_L7 s hs hp0 hpt 0 (by omega) none6 rfl _ 0 rfl) | refine ev_ret rfl ?_)
theorem s_PlanFilesS (s : List TPkg) (hs : s.length ≤ 2000000) (hp0 : PL s) : Ex (fun m => callF prg m 34 [.sl 4 (s.map ePkg)] []) (.osl 0) [.arr false 1 ((planFiles s).map iI)] := by
  refine ev_is.1 ?_
  (refine U34 (nl := 0) rfl ?_; unfold B34)
  repeat' (first | ((with_reducible refine eC ?_); first | ((refine ev_callB (s_PlanOkS s hs hp0) rfl rfl ?_ rfl rfl ?_ ?_); (focus first | exact .inl rfl | exact .inr rfl | (refine .inr ?_; simp [flagC, ownF, hasSl3, hasSl1, SO.hasSl, List.all_map, flatSV, SV.cells, Function.comp_def]; done)); (all_goals (intro h)); (all_goals (try (exfalso; simp_all; done)))) | ((refine ev_call (s_l13Files s hs hp0 (plan_paths (by assumption))) rfl rfl ?_ rfl ?_); (focus first | exact .inl rfl | exact .inr rfl | (refine .inr ?_; simp [flagC, ownF, hasSl3, hasSl1, SO.hasSl, List.all_map, flatSV, SV.cells, Function.comp_def]; done)))) | ((with_reducible refine eK ?_); first | (with_reducible first | refine ev_ct ?_ | refine ev_cf ?_) | ((with_reducible refine ev_cond ?_ ?_) <;> intro h)) | ((with_reducible refine eD ?_); first | refine ev_bd rfl ?_ | refine ev_bd0 rfl ?_) | refine ev_ret rfl ?_)
  all_goals exact ⟨rfl, by simp [planFiles, h]⟩
theorem s_Repeat6 : Ex (fun m => callF prg m 73 [.sl 1 [iI (-1)], iI 6] []) (.osl 0) [.arr false 1 (none6.map iI)] := by
  refine ⟨20, fun n hn => ?_⟩
  obtain ⟨n, rfl⟩ : ∃ m, n = m + 20 := ⟨n - 20, by omega⟩
  show callF prg (n + 20) _ _ _ = _
  kernel_rfl
theorem s_PlanFilesI_L8 (s : List TPkg) (hs : s.length ≤ 2000000) (hp0 : PL s) (hpt : pathsIn s) {Q : SV → List SO → Prop} (m5 : Nat → Nat) (i : Nat) (hi : i < s.length) (w0 : List Int) (hw0 : w0.length = 6)
    (hq : Ev (fun n => L32_5 (callF prg n) (n + 1) 0 (m5 n) (.osl 0) (.sl 4 (s.map ePkg)) (iI s.length) (iI ((i : Int) + 1)) [.arr false 1 ((putF w0 (nth s i).files).map iI)]) Q) : ∀ j, j ≤ (nth s i).files.length → ∀ (w : List Int), w = putF w0 ((nth s i).files.take j) → ∀ (k : Int) (c : Nat), k = j →
    Ev (fun n => G32_8 (callF prg n) (n + 1) 0 (m5 n) (n + 1 - c) [.osl 0, .sl 4 (s.map ePkg), iI s.length, iI i, .sl 2 ((nth s i).files.map eFile), iI (nth s i).files.length, iI k] [.arr false 1 (w.map iI)]) Q := by
  have hpi := hp0 i
  have hpti := hpt i hi
  refine up_ind ?_
  intro j hj ih w hw k c hk
  subst hk
  have hwl : w.length = 6 := by rw [hw, putF_len, hw0]
  have hptj := hpti j
  have hqe : j = (nth s i).files.length → Ev (fun n => L32_5 (callF prg n) (n + 1) 0 (m5 n) (.osl 0) (.sl 4 (s.map ePkg)) (iI s.length) (iI ((i : Int) + 1)) [.arr false 1 (w.map iI)]) Q := fun e => by
    rw [hw, e, List.take_length]; exact hq
  (refine UG32_8 _ ?_; unfold GB32_8)
  repeat' (first | ((with_reducible refine eB ?_); first | ((with_reducible refine ev_lss ?_ ?_) <;> intro h <;> try (exfalso; omega)) | ((with_reducible refine ev_add ?_ ?_); · omega) | refine ev_bd rfl ?_ | refine ev_bd0 rfl ?_) | ((with_reducible refine eI ?_); first | ((with_reducible refine ev_idxn ?_ ?_ ?_); (· rfl); · omega) | (refine ev_idxon rfl rfl ?_ ?_; (· first | omega | (simp only [List.length_cons, List.length_nil, List.length_map, List.length_append]; omega))) | (refine ev_idxfn rfl rfl ?_ ?_; (focus omega)) | ((with_reducible refine ev_idx ?_ ?_ ?_); (· rfl); · omega) | (refine ev_idxo rfl rfl ?_ ?_; (· first | omega | (simp only [List.length_cons, List.length_nil, List.length_map, List.length_append]; omega))) | (refine ev_idxf rfl rfl ?_ ?_; (focus omega)) | refine ev_bd rfl ?_ | refine ev_bd0 rfl ?_) | ((with_reducible refine eK ?_); first | (with_reducible first | refine ev_ct ?_ | refine ev_cf ?_) | ((with_reducible refine ev_cond ?_ ?_) <;> intro h)) | ((with_reducible refine eO ?_); first | refine ev_bd rfl ?_ | (refine ev_bdB rfl ?_ ?_ <;> intro h <;> try (exfalso; simp_all; done)) | refine ev_bd0 rfl ?_ | (refine ev_ldm rfl ?_ rfl ?_; (focus omega)) | (refine ev_ldmB rfl ?_ rfl ?_ ?_; (focus omega); (all_goals intro h))) | ((with_reducible refine eD ?_); first | refine ev_bd rfl ?_ | refine ev_bd0 rfl ?_ | ( (refine ev_sto (f := iI) (a := (nth (nth s i).files j).data) rfl rfl rfl rfl rfl rfl rfl rfl ?_ rfl ?_; (focus omega)))) | ((with_reducible refine eH ?_); first | refine ev_gcB rfl ?_) | (with_reducible first | refine UL32_8 ?_ | refine VL32_8 ?_) | ((with_reducible refine ih ?_ _ ?_ _ _ ?_) <;> (first | omega | assumption | ((rw [putF_step (by omega), ← hw])) | (simp only [*, List.map_append, List.length_append, List.length_cons, List.length_nil, List.map_cons, List.map_nil]; done) | (simp_all; done) | (simp_all; omega))) | ( exact hqe (by omega)) | refine ev_ret rfl ?_)
theorem s_PlanFilesI_L5 (s : List TPkg) (hs : s.length ≤ 2000000) (hp0 : PL s) (hpt : pathsIn s) : ∀ i, i ≤ s.length → ∀ (w : List Int), w = filesTo s i → ∀ (k : Int) (c : Nat), k = i →
    Ev (fun n => G32_5 (callF prg n) (n + 1) 0 (n + 1 - c) [.osl 0, .sl 4 (s.map ePkg), iI s.length, iI k] [.arr false 1 (w.map iI)]) (Is (.osl 0) [.arr false 1 ((filesP s).map iI)]) := by
  refine up_ind ?_
  intro i hi ih w hw k c hk
  subst hk
  have hnext : i < s.length → ∀ c, Ev (fun n => L32_5 (callF prg n) (n + 1) 0 (n + 1 - c) (.osl 0) (.sl 4 (s.map ePkg)) (iI s.length) (iI ((i : Int) + 1)) [.arr false 1 ((putF w (nth s i).files).map iI)]) (Is (.osl 0) [.arr false 1 ((filesP s).map iI)]) := by
    intro hi2 c
    repeat' (first | ((with_reducible refine eG ?_); first | (with_reducible first | refine ev_gtt ?_ | refine ev_gff ?_ | refine ev_gtf ?_ | refine ev_gft ?_ | refine ev_gu ?_) | refine ev_bd rfl ?_ | refine ev_bd0 rfl ?_ | ((with_reducible refine ev_gB ?_ ?_) <;> intro h)) | ((with_reducible refine eB ?_); first | ((with_reducible first | refine ev_lss ?_ ?_ | refine ev_leq ?_ ?_ | refine ev_gtr ?_ ?_ | refine ev_geq ?_ ?_ | refine ev_eql ?_ ?_ | refine ev_neq ?_ ?_) <;> intro h <;> try (exfalso; omega)) | ((with_reducible first | refine ev_add ?_ ?_ | refine ev_sub ?_ ?_ | refine ev_mul ?_ ?_); · omega) | ((with_reducible refine ev_quo ?_ ?_ ?_); (· omega); (· omega); intro x hx hx0 hx1) | ((with_reducible refine ev_rem ?_ ?_); (· omega); intro x hx hx0 hx1) | ((with_reducible first | refine ev_eql3 ?_ ?_ ?_ | refine ev_neq3 ?_ ?_ ?_ | refine ev_eql2 ?_ ?_ ?_ | refine ev_neq2 ?_ ?_ ?_); (· rfl); all_goals intro h) | refine ev_bd rfl ?_ | refine ev_bd0 rfl ?_) | ((with_reducible refine eL ?_); first | ((with_reducible refine ev_lenm ?_ ?_); · rfl) | refine ev_lenom rfl rfl ?_ | refine ev_lenfm rfl rfl ?_ | refine ev_lenoc rfl rfl rfl ?_ | refine ev_lenc rfl rfl ?_ | refine ev_leno rfl rfl ?_ | refine ev_slen rfl ?_ | refine ev_bd rfl ?_ | refine ev_bd0 rfl ?_) | ((with_reducible refine eI ?_); first | ((with_reducible refine ev_idxn ?_ ?_ ?_); (· rfl); · omega) | (refine ev_idxon rfl rfl ?_ ?_; (· first | omega | (simp only [List.length_cons, List.length_nil, List.length_map, List.length_append]; omega))) | (refine ev_idxfn rfl rfl ?_ ?_; (focus omega)) | ((with_reducible refine ev_idx ?_ ?_ ?_); (· rfl); · omega) | (refine ev_idxo rfl rfl ?_ ?_; (· first | omega | (simp only [List.length_cons, List.length_nil, List.length_map, List.length_append]; omega))) | (refine ev_idxf rfl rfl ?_ ?_; (focus omega)) | refine ev_bd rfl ?_ | refine ev_bd0 rfl ?_) | ((with_reducible refine eS ?_); first | ((with_reducible first | refine ev_slh ?_ ?_ ?_ | refine ev_sll ?_ ?_ ?_); (· rfl); · omega) | ((first | refine ev_slvh rfl rfl ?_ ?_ | refine ev_slvl rfl rfl ?_ ?_); (· first | omega | (simp only [List.length_cons, List.length_nil, List.length_map, List.length_append]; omega))) | refine ev_bd rfl ?_ | refine ev_bd0 rfl ?_) | ((with_reducible refine eC ?_); first | fail) | (with_reducible refine ev_callee ?_) | ((with_reducible refine eA ?_); first | (refine ev_app rfl rfl rfl rfl rfl ?_ ?_; · first | decide | (simp only [List.length_append, List.length_cons, List.length_nil, List.length_map, List.length_take, List.length_drop]; omega))) | ((with_reducible refine eV ?_); first | ((with_reducible refine ev_conv64 ?_ ?_ ?_ ?_); (· rfl); (· rfl); · omega) | refine ev_bd rfl ?_ | refine ev_bd0 rfl ?_) | ((with_reducible refine eK ?_); first | (with_reducible first | refine ev_ct ?_ | refine ev_cf ?_) | ((with_reducible refine ev_cond ?_ ?_) <;> intro h)) | ((with_reducible refine eO ?_); first | refine ev_bd rfl ?_ | (refine ev_bdB rfl ?_ ?_ <;> intro h <;> try (exfalso; simp_all; done)) | refine ev_bd0 rfl ?_ | (refine ev_ldm rfl ?_ rfl ?_; (focus omega)) | (refine ev_ldmB rfl ?_ rfl ?_ ?_; (focus omega); (all_goals intro h)) | (refine ev_ldz rfl rfl rfl ?_ ?_ ?_; (· simp); (· first | omega | (simp only [List.length_cons, List.length_nil, List.length_map, List.length_append]; omega)); intro w)) | ((with_reducible refine eD ?_); first | refine ev_bd rfl ?_ | refine ev_bd0 rfl ?_ | ((with_reducible refine ev_pickB ?_ ?_) <;> intro h)) | ((with_reducible refine ev_dchk ?_ ?_); · intro _; rfl) | ((with_reducible refine eH ?_); first | refine ev_gcB rfl ?_) | (with_reducible first | refine UL32_5 ?_ | refine VL32_5 ?_) | ( exact ih hi2 _ (by rw [filesTo_step (by omega), hw]) _ _ rfl) | refine ev_ret rfl ?_)
  (refine UG32_5 _ ?_; unfold GB32_5)
  repeat' (first | ((with_reducible refine eB ?_); first | ((with_reducible refine ev_lss ?_ ?_) <;> intro h <;> try (exfalso; omega)) | refine ev_bd rfl ?_ | refine ev_bd0 rfl ?_) | ((with_reducible refine eL ?_); first | ((with_reducible refine ev_lenm ?_ ?_); · rfl) | refine ev_lenom rfl rfl ?_ | refine ev_lenfm rfl rfl ?_ | refine ev_lenoc rfl rfl rfl ?_ | refine ev_lenc rfl rfl ?_ | refine ev_leno rfl rfl ?_ | refine ev_slen rfl ?_ | refine ev_bd rfl ?_ | refine ev_bd0 rfl ?_) | ((with_reducible refine eI ?_); first | ((with_reducible refine ev_idxn ?_ ?_ ?_); (· rfl); · omega) | (refine ev_idxon rfl rfl ?_ ?_; (· first | omega | (simp only [List.length_cons, List.length_nil, List.length_map, List.length_append]; omega))) | (refine ev_idxfn rfl rfl ?_ ?_; (focus omega)) | ((with_reducible refine ev_idx ?_ ?_ ?_); (· rfl); · omega) | (refine ev_idxo rfl rfl ?_ ?_; (· first | omega | (simp only [List.length_cons, List.length_nil, List.length_map, List.length_append]; omega))) | (refine ev_idxf rfl rfl ?_ ?_; (focus omega)) | refine ev_bd rfl ?_ | refine ev_bd0 rfl ?_) | ((with_reducible refine eK ?_); first | (with_reducible first | refine ev_ct ?_ | refine ev_cf ?_) | ((with_reducible refine ev_cond ?_ ?_) <;> intro h)) | ((with_reducible refine eO ?_); first | refine ev_bd rfl ?_ | (refine ev_bdB rfl ?_ ?_ <;> intro h <;> try (exfalso; simp_all; done)) | refine ev_bd0 rfl ?_ | (refine ev_ldm rfl ?_ rfl ?_; (focus omega)) | (refine ev_ldmB rfl ?_ rfl ?_ ?_; (focus omega); (all_goals intro h))) | ((with_reducible refine eD ?_); first | refine ev_bd rfl ?_ | refine ev_bd0 rfl ?_) | ((with_reducible refine eH ?_); first | refine ev_gcB rfl ?_) | (with_reducible first | refine UL32_8 ?_ | refine VL32_8 ?_) | ( exact s_PlanFilesI_L8 s hs hp0 hpt _ i (by omega) w (by rw [hw]; exact filesTo_len _ _) (hnext (by omega) _) 0 (by omega) w rfl 0 _ rfl) | refine ev_ret rfl ?_)
  all_goals exact ⟨rfl, by rw [hw, show i = s.length by omega, filesTo_all]⟩
theorem s_PlanFilesI (s : List TPkg) (hs : s.length ≤ 2000000) (hp0 : PL s) : Ex (fun m => callF prg m 32 [.sl 4 (s.map ePkg)] []) (.osl 0) [.arr false 1 ((planFiles s).map iI)] := by
  refine ev_is.1 ?_
  (refine U32 (nl := 0) rfl ?_; unfold B32)
  repeat' (first | ((with_reducible refine eL ?_); first | ((with_reducible refine ev_lenm ?_ ?_); · rfl) | refine ev_lenom rfl rfl ?_ | refine ev_lenfm rfl rfl ?_ | refine ev_lenoc rfl rfl rfl ?_ | refine ev_lenc rfl rfl ?_ | refine ev_leno rfl rfl ?_ | refine ev_slen rfl ?_ | refine ev_bd rfl ?_ | refine ev_bd0 rfl ?_) | ((with_reducible refine eC ?_); first | ((refine ev_callB (s_PlanOkI s hs hp0) rfl rfl ?_ rfl rfl ?_ ?_); (focus first | exact .inl rfl | exact .inr rfl | (refine .inr ?_; simp [flagC, ownF, hasSl3, hasSl1, SO.hasSl, List.all_map, flatSV, SV.cells, Function.comp_def]; done)); (all_goals (intro h)); (all_goals (try (exfalso; simp_all; done)))) | ((refine ev_call (s_Repeat6 ..) rfl rfl ?_ rfl ?_); (focus first | exact .inl rfl | exact .inr rfl | (refine .inr ?_; simp [flagC, ownF, hasSl3, hasSl1, SO.hasSl, List.all_map, flatSV, SV.cells, Function.comp_def]; done)))) | ((with_reducible refine eK ?_); first | (with_reducible first | refine ev_ct ?_ | refine ev_cf ?_) | ((with_reducible refine ev_cond ?_ ?_) <;> intro h)) | ((with_reducible refine eD ?_); first | refine ev_bd rfl ?_ | refine ev_bd0 rfl ?_) | ((with_reducible refine eH ?_); first | refine ev_gcB rfl ?_) | (with_reducible first | refine UL32_5 ?_ | refine VL32_5 ?_) | ( ((rw [show planFiles s = filesP s from if_pos (by assumption)]); exact s_PlanFilesI_L5 s hs hp0 (plan_paths (by assumption)) 0 (by omega) none6 rfl _ _ rfl)) | refine ev_ret rfl ?_)
  all_goals exact ⟨rfl, by simp [planFiles, h]⟩

end Go.Proofs.Ytgeolifkmiglgaa
