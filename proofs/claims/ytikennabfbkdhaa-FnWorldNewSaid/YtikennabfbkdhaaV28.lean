/- The evaluator S and what it says of functions: V25, V26, V27, V28. -/
import Derived.Test.YtikennabfbkdhaaV21
import Derived.Test.YtikennabfbkdhaaV24
import Derived.KernelRfl
/- What is to be in for a name to be: what the reference gives. -/
namespace Go.Proofs.Ytikennabfbkdhaa
open Go
set_option linter.unusedVariables false
set_option linter.unusedSimpArgs false
set_option maxHeartbeats 4000000
def pickP (st hv : List TPkg) (n : Int) : TPkg × Bool :=
  if (newestP st n).2 = true ∧ ((newestP hv n).2 = false ∨ (newestP hv n).1.ver < (newestP st n).1.ver) then ((newestP st n).1, true) else newestP hv n
theorem pick_true {st hv : List TPkg} {n : Int} {p : TPkg} (h : pickP st hv n = (p, true)) : p.name = n ∧ (p ∈ st ∨ p ∈ hv) := by
  unfold pickP at h
  split at h
  · rename_i h0
    obtain ⟨rfl, -⟩ := Prod.mk.inj h
    obtain ⟨h1, h2, -⟩ := newest_true (s := st) (name := n) (p := (newestP st n).1) (Prod.ext rfl h0.1)
    exact ⟨h2, .inl h1⟩
  · obtain ⟨h1, h2, -⟩ := newest_true h
    exact ⟨h2, .inr h1⟩
inductive Reach (st hv : List TPkg) (name : Int) : Int → Prop
  | this : Reach st hv name name
  | was {p : TPkg} : p ∈ hv → Reach st hv name p.name
  | need {n : Int} {p : TPkg} {d : TDep} : Reach st hv name n → pickP st hv n = (p, true) → d ∈ p.deps → Reach st hv name d.name
noncomputable def reachB (st hv : List TPkg) (name n : Int) : Bool := @decide (Reach st hv name n) (Classical.propDecidable _)
theorem reachB_iff {st hv : List TPkg} {name n : Int} : reachB st hv name n = true ↔ Reach st hv name n := by
  unfold reachB; exact @decide_eq_true_iff _ (Classical.propDecidable _)
def allPick (st hv : List TPkg) (name : Int) : Prop := ∀ n, Reach st hv name n → (pickP st hv n).2 = true
noncomputable def outP (st hv : List TPkg) (name : Int) : List TPkg := (([1, 2, 3, 4] : List Int).filter (reachB st hv name)).map fun n => (pickP st hv n).1
open Classical in
noncomputable def forP (st hv : List TPkg) (name : Int) : List TPkg × Bool := if allPick st hv name ∧ planOk (outP st hv name) = true then (outP st hv name, true) else ([], false)
def srt (l : List TPkg) : Prop := l.Pairwise fun a b => a.name < b.name
theorem srt_ext : ∀ {l m : List TPkg}, srt l → srt m → (∀ x, x ∈ l ↔ x ∈ m) → l = m
  | [], [], _, _, _ => rfl
  | [], y :: m, _, _, h => by have := (h y).2 (by simp); cases this
  | x :: l, [], _, _, h => by have := (h x).1 (by simp); cases this
  | x :: l, y :: m, h1, h2, h => by
    obtain ⟨a1, a2⟩ := List.pairwise_cons.1 h1
    obtain ⟨b1, b2⟩ := List.pairwise_cons.1 h2
    have e : x = y := by
      rcases List.mem_cons.1 ((h x).1 (by simp)) with e | hx
      · exact e
      · rcases List.mem_cons.1 ((h y).2 (by simp)) with e | hy
        · exact e.symm
        · have := a1 y hy; have := b1 x hx; omega
    subst e
    refine congrArg _ (srt_ext a2 b2 fun z => ?_)
    constructor
    · intro hz
      rcases List.mem_cons.1 ((h z).1 (List.mem_cons_of_mem _ hz)) with e | hz2
      · subst e; have := a1 _ hz; omega
      · exact hz2
    · intro hz
      rcases List.mem_cons.1 ((h z).2 (List.mem_cons_of_mem _ hz)) with e | hz2
      · subst e; have := b1 _ hz; omega
      · exact hz2
theorem reach_in {st hv : List TPkg} {name : Int} (hn : 1 ≤ name ∧ name ≤ 4) (ht : tames st) (ht2 : tames hv) {n : Int} (h : Reach st hv name n) : 1 ≤ n ∧ n ≤ 4 := by
  cases h with
  | this => exact hn
  | was hp => exact (ht2 _ hp).1
  | need h1 h2 h3 =>
    rcases (pick_true h2).2 with e | e
    · exact (ht _ e).2 _ h3
    · exact (ht2 _ e).2 _ h3
theorem outP_mem {st hv : List TPkg} {name : Int} (hn : 1 ≤ name ∧ name ≤ 4) (ht : tames st) (ht2 : tames hv) (ha : allPick st hv name) {p : TPkg} : p ∈ outP st hv name ↔ Reach st hv name p.name ∧ pickP st hv p.name = (p, true) := by
  unfold outP
  rw [List.mem_map]
  constructor
  · rintro ⟨n, h1, rfl⟩
    obtain ⟨-, h2⟩ := List.mem_filter.1 h1
    have h3 := reachB_iff.1 h2
    have h4 : pickP st hv n = ((pickP st hv n).1, true) := Prod.ext rfl (ha n h3)
    have h5 := (pick_true h4).1
    rw [h5]; exact ⟨h3, h4⟩
  · rintro ⟨h1, h2⟩
    have h3 := reach_in hn ht ht2 h1
    refine ⟨p.name, List.mem_filter.2 ⟨?_, reachB_iff.2 h1⟩, by rw [h2]⟩
    simp only [List.mem_cons, List.not_mem_nil, or_false]; omega
theorem outP_srt {st hv : List TPkg} {name : Int} (ha : allPick st hv name) : srt (outP st hv name) := by
  unfold outP srt
  rw [List.pairwise_map]
  have h1 : (([1, 2, 3, 4] : List Int).filter (reachB st hv name)).Pairwise (· < ·) := List.Pairwise.filter _ (by decide)
  refine List.Pairwise.imp_of_mem ?_ h1
  intro a b h2 h3 h4
  have key : ∀ n, n ∈ ([1, 2, 3, 4] : List Int).filter (reachB st hv name) → (pickP st hv n).1.name = n := fun n hn => by
    have h3 := reachB_iff.1 (List.mem_filter.1 hn).2
    exact (pick_true (p := (pickP st hv n).1) (Prod.ext rfl (ha n h3))).1
  rw [key a h2, key b h3]; exact h4
structure ForInv (st hv : List TPkg) (name : Int) (w : List Bool) (out : List TPkg) : Prop where
  len : w.length = 5
  sound : ∀ x : Int, 1 ≤ x → x ≤ 4 → nth w x.toNat = true → Reach st hv name x
  nm : nth w name.toNat = true
  hvs : ∀ p, p ∈ hv → nth w p.name.toNat = true
  deps : ∀ p, p ∈ out → ∀ d, d ∈ p.deps → nth w d.name.toNat = true
  outp : ∀ p, p ∈ out → pickP st hv p.name = (p, true) ∧ (1 ≤ p.name ∧ p.name ≤ 4) ∧ Reach st hv name p.name
  so : srt out
theorem ForInv.all {st hv : List TPkg} {name : Int} {w : List Bool} {out : List TPkg} (h : ForInv st hv name w out) (hn : 1 ≤ name ∧ name ≤ 4) (ht : tames st) (ht2 : tames hv) (hd : ∀ m : Int, 1 ≤ m → m < 5 → nth w m.toNat = true → ∃ p, p ∈ out ∧ p.name = m) :
    allPick st hv name ∧ out = outP st hv name := by
  have key : ∀ n, Reach st hv name n → nth w n.toNat = true := by
    intro n hr
    induction hr with
    | this => exact h.nm
    | was hp => exact h.hvs _ hp
    | need h1 h2 h3 ih =>
      have hb := reach_in hn ht ht2 h1
      obtain ⟨q, hq, e⟩ := hd _ hb.1 (by omega) ih
      have h4 := (h.outp q hq).1
      rw [e, h2] at h4
      obtain ⟨rfl, -⟩ := Prod.mk.inj h4
      exact h.deps _ hq _ h3
  have hin : ∀ n, Reach st hv name n → ∃ p, p ∈ out ∧ p.name = n := fun n hr => by
    have hb := reach_in hn ht ht2 hr
    exact hd n hb.1 (by omega) (key n hr)
  have ha : allPick st hv name := fun n hr => by
    obtain ⟨p, hp, rfl⟩ := hin n hr
    rw [(h.outp p hp).1]
  refine ⟨ha, srt_ext h.so (outP_srt ha) fun x => ?_⟩
  rw [outP_mem hn ht ht2 ha]
  constructor
  · intro hx; exact ⟨(h.outp x hx).2.2, (h.outp x hx).1⟩
  · rintro ⟨h1, h2⟩
    obtain ⟨p, hp, e⟩ := hin _ h1
    have h4 := (h.outp p hp).1
    rw [e, h2] at h4
    obtain ⟨rfl, -⟩ := Prod.mk.inj h4
    exact hp
end Go.Proofs.Ytikennabfbkdhaa

/- Drawn packages that can be in together. -/
namespace Go.Proofs.Ytikennabfbkdhaa
open Go
set_option linter.unusedVariables false
set_option linter.unusedSimpArgs false
set_option maxHeartbeats 40000000
def Res4 (j : Nat) (s : List TPkg) (x : SV) (t : List SO) : Prop := (x = .osl j ∧ t = [.arr false 4 (s.map ePkg)]) ∨ (x = .sl 4 (s.map ePkg) ∧ t = [])
def Arr4 (s : List TPkg) (o : SO) : Prop := o = .arr false 4 (s.map ePkg) ∨ o = .frz 4 (s.map ePkg)
end Go.Proofs.Ytikennabfbkdhaa

/- Packages that can be in together, as a law of lists; one less. -/
namespace Go.Proofs.Ytikennabfbkdhaa
open Go
set_option linter.unusedVariables false
set_option linter.unusedSimpArgs false
def apart (s : List TPkg) : Prop := s.Pairwise fun p q => ∀ f, f ∈ p.files → ∀ g, g ∈ q.files → g.path ≠ f.path
def neededP (s : List TPkg) (k : Nat) : Prop := ∃ i, i < s.length ∧ i ≠ k ∧ ∃ d, d ∈ (nth s i).deps ∧ d.name = (nth s k).name
end Go.Proofs.Ytikennabfbkdhaa

/- What is at each place. -/
namespace Go.Proofs.Ytikennabfbkdhaa
open Go
set_option linter.unusedVariables false
set_option linter.unusedSimpArgs false
set_option maxHeartbeats 4000000
set_option maxRecDepth 100000
def putF (w : List Int) (F : List TFile) : List Int := F.foldl (fun w f => w.set f.path.toNat f.data) w
def none6 : List Int := [-1, -1, -1, -1, -1, -1]
def filesTo (s : List TPkg) (i : Nat) : List Int := (s.take i).foldl (fun w p => putF w p.files) none6
def filesP (s : List TPkg) : List Int := s.foldl (fun w p => putF w p.files) none6
def planFiles (s : List TPkg) : List Int := if planOk s = true then filesP s else []
theorem putF_step {w : List Int} {F : List TFile} {j : Nat} (h : j < F.length) : putF w (F.take (j + 1)) = (putF w (F.take j)).set (nth F j).path.toNat (nth F j).data := by
  unfold putF; rw [take_nth h, List.foldl_append]; rfl
theorem filesTo_step {s : List TPkg} {i : Nat} (h : i < s.length) : filesTo s (i + 1) = putF (filesTo s i) (nth s i).files := by
  unfold filesTo; rw [take_nth h, List.foldl_append]; rfl
theorem filesTo_all {s : List TPkg} : filesTo s s.length = filesP s := by unfold filesTo filesP; rw [List.take_length]
theorem putF_len (w : List Int) (F : List TFile) : (putF w F).length = w.length := by
  unfold putF
  induction F generalizing w with
  | nil => rfl
  | cons f F ih => rw [List.foldl_cons, ih, List.length_set]
theorem filesTo_len (s : List TPkg) (i : Nat) : (filesTo s i).length = 6 := by
  unfold filesTo
  generalize s.take i = r
  have key : ∀ (r : List TPkg) (w : List Int), (r.foldl (fun w p => putF w p.files) w).length = w.length := by
    intro r
    induction r with
    | nil => intro w; rfl
    | cons p r ih => intro w; rw [List.foldl_cons, ih, putF_len]
  rw [key]; rfl
def pathsIn (s : List TPkg) : Prop := ∀ i, i < s.length → ∀ j, j < (nth s i).files.length → 0 ≤ (nth (nth s i).files j).path ∧ (nth (nth s i).files j).path ≤ 5
theorem plan_paths {s : List TPkg} (h : planOk s = true) : pathsIn s := fun i hi j hj => by
  have h1 := (storeOk_iff.1 (planOk_iff.1 h).1 i hi).1
  have h2 := (pkg_files h1).2 j hj
  unfold fileAt at h2; omega
theorem s_l13Files_L10 (s : List TPkg) (hs : s.length ≤ 2000000) (hp0 : PL s) (hpt : pathsIn s) {Q : SV → List SO → Prop} (m7 : Nat → Nat) (i : Nat) (hi : i < s.length) (w0 : List Int) (hw0 : w0.length = 6)
    (hq : Ev (fun n => L46_7 (callF prg n) (n + 1) 0 (m7 n) (.sl 4 (s.map ePkg)) (.osl 1) (iI ((i : Int) + 1)) [.arr false 1 [], .arr false 1 ((putF w0 (nth s i).files).map iI)]) Q) : ∀ j, j ≤ (nth s i).files.length → ∀ (w : List Int), w = putF w0 ((nth s i).files.take j) → ∀ (k : Int) (c : Nat), k = j →
    Ev (fun n => L46_10 (callF prg n) (n + 1) 0 (m7 n) (n + 1 - c) (.sl 4 (s.map ePkg)) (.osl 1) (iI i) (iI k) [.arr false 1 [], .arr false 1 (w.map iI)]) Q := by
  have hpi := hp0 i
  have hpti := hpt i hi
  refine up_ind ?_
  intro j hj ih w hw k c hk
  subst hk
  have hwl : w.length = 6 := by rw [hw, putF_len, hw0]
  have hptj := hpti j
  have hqe : j = (nth s i).files.length → Ev (fun n => L46_7 (callF prg n) (n + 1) 0 (m7 n) (.sl 4 (s.map ePkg)) (.osl 1) (iI ((i : Int) + 1)) [.arr false 1 [], .arr false 1 (w.map iI)]) Q := fun e => by
    rw [hw, e, List.take_length]; exact hq
  (refine UL46_10 ?_; unfold LB46_10)
  repeat' (first | ((with_reducible refine eB ?_); first | ((with_reducible refine ev_lss ?_ ?_) <;> intro h <;> try (exfalso; omega)) | ((with_reducible refine ev_add ?_ ?_); · omega) | refine ev_bd rfl ?_ | refine ev_bd0 rfl ?_) | ((with_reducible refine eL ?_); first | ((with_reducible refine ev_lenm ?_ ?_); · rfl) | refine ev_lenom rfl rfl ?_ | refine ev_lenfm rfl rfl ?_ | refine ev_lenoc rfl rfl rfl ?_ | refine ev_lenc rfl rfl ?_ | refine ev_leno rfl rfl ?_ | refine ev_slen rfl ?_ | refine ev_bd rfl ?_ | refine ev_bd0 rfl ?_) | ((with_reducible refine eI ?_); first | ((with_reducible refine ev_idxn ?_ ?_ ?_); (· rfl); · omega) | (refine ev_idxon rfl rfl ?_ ?_; (· first | omega | (simp only [List.length_cons, List.length_nil, List.length_map, List.length_append]; omega))) | (refine ev_idxfn rfl rfl ?_ ?_; (focus omega)) | ((with_reducible refine ev_idx ?_ ?_ ?_); (· rfl); · omega) | (refine ev_idxo rfl rfl ?_ ?_; (· first | omega | (simp only [List.length_cons, List.length_nil, List.length_map, List.length_append]; omega))) | (refine ev_idxf rfl rfl ?_ ?_; (focus omega)) | refine ev_bd rfl ?_ | refine ev_bd0 rfl ?_) | ((with_reducible refine eK ?_); first | (with_reducible first | refine ev_ct ?_ | refine ev_cf ?_) | ((with_reducible refine ev_cond ?_ ?_) <;> intro h)) | ((with_reducible refine eO ?_); first | refine ev_bd rfl ?_ | (refine ev_bdB rfl ?_ ?_ <;> intro h <;> try (exfalso; simp_all; done)) | refine ev_bd0 rfl ?_ | (refine ev_ldm rfl ?_ rfl ?_; (focus omega)) | (refine ev_ldmB rfl ?_ rfl ?_ ?_; (focus omega); (all_goals intro h))) | ((with_reducible refine eD ?_); first | refine ev_bd rfl ?_ | refine ev_bd0 rfl ?_ | ( (refine ev_sto (f := iI) (a := (nth (nth s i).files j).data) rfl rfl rfl rfl rfl rfl rfl rfl ?_ rfl ?_; (focus omega)))) | ((with_reducible refine ih ?_ _ ?_ _ _ ?_) <;> (first | omega | assumption | ((rw [putF_step (by omega), ← hw])) | (simp only [*, List.map_append, List.length_append, List.length_cons, List.length_nil, List.map_cons, List.map_nil]; done) | (simp_all; done) | (simp_all; omega))) | ( exact hqe (by omega)) | refine ev_ret rfl ?_)
theorem s_l13Files_L7 (s : List TPkg) (hs : s.length ≤ 2000000) (hp0 : PL s) (hpt : pathsIn s) : ∀ i, i ≤ s.length → ∀ (w : List Int), w = filesTo s i → ∀ (k : Int) (c : Nat), k = i →
    Ev (fun n => L46_7 (callF prg n) (n + 1) 0 (n + 1 - c) (.sl 4 (s.map ePkg)) (.osl 1) (iI k) [.arr false 1 [], .arr false 1 (w.map iI)]) (Is (.osl 0) [.arr false 1 ((filesP s).map iI)]) := by
  refine up_ind ?_
  intro i hi ih w hw k c hk
  subst hk
  (refine UL46_7 ?_; unfold LB46_7)
  repeat' (first | ((with_reducible refine eB ?_); first | ((with_reducible refine ev_lss ?_ ?_) <;> intro h <;> try (exfalso; omega)) | refine ev_bd rfl ?_ | refine ev_bd0 rfl ?_) | ((with_reducible refine eL ?_); first | ((with_reducible refine ev_lenm ?_ ?_); · rfl) | refine ev_lenom rfl rfl ?_ | refine ev_lenfm rfl rfl ?_ | refine ev_lenoc rfl rfl rfl ?_ | refine ev_lenc rfl rfl ?_ | refine ev_leno rfl rfl ?_ | refine ev_slen rfl ?_ | refine ev_bd rfl ?_ | refine ev_bd0 rfl ?_) | ((with_reducible refine eK ?_); first | (with_reducible first | refine ev_ct ?_ | refine ev_cf ?_) | ((with_reducible refine ev_cond ?_ ?_) <;> intro h)) | ((with_reducible refine eD ?_); first | refine ev_bd rfl ?_ | refine ev_bd0 rfl ?_) | ( exact s_l13Files_L10 s hs hp0 hpt _ i (by omega) w (by rw [hw]; exact filesTo_len _ _) (ih (by omega) _ (by rw [filesTo_step (by omega), hw]) _ _ rfl) 0 (by omega) w rfl 0 0 rfl) | refine ev_ret rfl ?_)
  all_goals exact ⟨rfl, by rw [hw, show i = s.length by omega, filesTo_all]⟩
theorem s_l13Files (s : List TPkg) (hs : s.length ≤ 2000000) (hp0 : PL s) (hpt : pathsIn s) : Ex (fun m => callF prg m 46 [.sl 4 (s.map ePkg)] []) (.osl 0) [.arr false 1 ((filesP s).map iI)] := by
  refine ev_is.1 ?_
  (refine U46 (nl := 0) rfl ?_; unfold B46)
  repeat' (first | ((with_reducible refine eB ?_); first | ((with_reducible refine ev_lss ?_ ?_) <;> intro h <;> try (exfalso; omega)) | ((with_reducible refine ev_add ?_ ?_); · omega) | refine ev_bd rfl ?_ | refine ev_bd0 rfl ?_) | ((with_reducible refine eL ?_); first | ((with_reducible refine ev_lenm ?_ ?_); · rfl) | refine ev_lenom rfl rfl ?_ | refine ev_lenfm rfl rfl ?_ | refine ev_lenoc rfl rfl rfl ?_ | refine ev_lenc rfl rfl ?_ | refine ev_leno rfl rfl ?_ | refine ev_slen rfl ?_ | refine ev_bd rfl ?_ | refine ev_bd0 rfl ?_) | ((with_reducible refine eI ?_); first | ((with_reducible refine ev_idxn ?_ ?_ ?_); (· rfl); · omega) | (refine ev_idxon rfl rfl ?_ ?_; (· first | omega | (simp only [List.length_cons, List.length_nil, List.length_map, List.length_append]; omega))) | (refine ev_idxfn rfl rfl ?_ ?_; (focus omega)) | ((with_reducible refine ev_idx ?_ ?_ ?_); (· rfl); · omega) | (refine ev_idxo rfl rfl ?_ ?_; (· first | omega | (simp only [List.length_cons, List.length_nil, List.length_map, List.length_append]; omega))) | (refine ev_idxf rfl rfl ?_ ?_; (focus omega)) | refine ev_bd rfl ?_ | refine ev_bd0 rfl ?_) | ((with_reducible refine eK ?_); first | (with_reducible first | refine ev_ct ?_ | refine ev_cf ?_) | ((with_reducible refine ev_cond ?_ ?_) <;> intro h)) | ((with_reducible refine eD ?_); first | refine ev_bd rfl ?_ | refine ev_bd0 rfl ?_) | ((with_reducible first | refine UL46_3 ?_ | refine VL46_3 ?_); (unfold LB46_3)) | ( exact s_l13Files_L7 s hs hp0 hpt 0 (by omega) none6 rfl _ 0 rfl) | refine ev_ret rfl ?_)
theorem s_Repeat6 : Ex (fun m => callF prg m 47 [.sl 1 [iI (-1)], iI 6] []) (.osl 0) [.arr false 1 (none6.map iI)] := by
  refine ⟨20, fun n hn => ?_⟩
  obtain ⟨n, rfl⟩ : ∃ m, n = m + 20 := ⟨n - 20, by omega⟩
  show callF prg (n + 20) _ _ _ = _
  kernel_rfl
theorem s_PlanFilesI_L8 (s : List TPkg) (hs : s.length ≤ 2000000) (hp0 : PL s) (hpt : pathsIn s) {Q : SV → List SO → Prop} (m5 : Nat → Nat) (i : Nat) (hi : i < s.length) (w0 : List Int) (hw0 : w0.length = 6)
    (hq : Ev (fun n => L43_5 (callF prg n) (n + 1) 0 (m5 n) (.osl 0) (.sl 4 (s.map ePkg)) (iI s.length) (iI ((i : Int) + 1)) [.arr false 1 ((putF w0 (nth s i).files).map iI)]) Q) : ∀ j, j ≤ (nth s i).files.length → ∀ (w : List Int), w = putF w0 ((nth s i).files.take j) → ∀ (k : Int) (c : Nat), k = j →
    Ev (fun n => G43_8 (callF prg n) (n + 1) 0 (m5 n) (n + 1 - c) [.osl 0, .sl 4 (s.map ePkg), iI s.length, iI i, .sl 2 ((nth s i).files.map eFile), iI (nth s i).files.length, iI k] [.arr false 1 (w.map iI)]) Q := by
  have hpi := hp0 i
  have hpti := hpt i hi
  refine up_ind ?_
  intro j hj ih w hw k c hk
  subst hk
  have hwl : w.length = 6 := by rw [hw, putF_len, hw0]
  have hptj := hpti j
  have hqe : j = (nth s i).files.length → Ev (fun n => L43_5 (callF prg n) (n + 1) 0 (m5 n) (.osl 0) (.sl 4 (s.map ePkg)) (iI s.length) (iI ((i : Int) + 1)) [.arr false 1 (w.map iI)]) Q := fun e => by
    rw [hw, e, List.take_length]; exact hq
  (refine UG43_8 _ ?_; unfold GB43_8)
  repeat' (first | ((with_reducible refine eB ?_); first | ((with_reducible refine ev_lss ?_ ?_) <;> intro h <;> try (exfalso; omega)) | ((with_reducible refine ev_add ?_ ?_); · omega) | refine ev_bd rfl ?_ | refine ev_bd0 rfl ?_) | ((with_reducible refine eI ?_); first | ((with_reducible refine ev_idxn ?_ ?_ ?_); (· rfl); · omega) | (refine ev_idxon rfl rfl ?_ ?_; (· first | omega | (simp only [List.length_cons, List.length_nil, List.length_map, List.length_append]; omega))) | (refine ev_idxfn rfl rfl ?_ ?_; (focus omega)) | ((with_reducible refine ev_idx ?_ ?_ ?_); (· rfl); · omega) | (refine ev_idxo rfl rfl ?_ ?_; (· first | omega | (simp only [List.length_cons, List.length_nil, List.length_map, List.length_append]; omega))) | (refine ev_idxf rfl rfl ?_ ?_; (focus omega)) | refine ev_bd rfl ?_ | refine ev_bd0 rfl ?_) | ((with_reducible refine eK ?_); first | (with_reducible first | refine ev_ct ?_ | refine ev_cf ?_) | ((with_reducible refine ev_cond ?_ ?_) <;> intro h)) | ((with_reducible refine eO ?_); first | refine ev_bd rfl ?_ | (refine ev_bdB rfl ?_ ?_ <;> intro h <;> try (exfalso; simp_all; done)) | refine ev_bd0 rfl ?_ | (refine ev_ldm rfl ?_ rfl ?_; (focus omega)) | (refine ev_ldmB rfl ?_ rfl ?_ ?_; (focus omega); (all_goals intro h))) | ((with_reducible refine eD ?_); first | refine ev_bd rfl ?_ | refine ev_bd0 rfl ?_ | ( (refine ev_sto (f := iI) (a := (nth (nth s i).files j).data) rfl rfl rfl rfl rfl rfl rfl rfl ?_ rfl ?_; (focus omega)))) | ((with_reducible refine eH ?_); first | refine ev_gcB rfl ?_) | (with_reducible first | refine UL43_8 ?_ | refine VL43_8 ?_) | ((with_reducible refine ih ?_ _ ?_ _ _ ?_) <;> (first | omega | assumption | ((rw [putF_step (by omega), ← hw])) | (simp only [*, List.map_append, List.length_append, List.length_cons, List.length_nil, List.map_cons, List.map_nil]; done) | (simp_all; done) | (simp_all; omega))) | ( exact hqe (by omega)) | refine ev_ret rfl ?_)
theorem s_PlanFilesI_L5 (s : List TPkg) (hs : s.length ≤ 2000000) (hp0 : PL s) (hpt : pathsIn s) : ∀ i, i ≤ s.length → ∀ (w : List Int), w = filesTo s i → ∀ (k : Int) (c : Nat), k = i →
    Ev (fun n => G43_5 (callF prg n) (n + 1) 0 (n + 1 - c) [.osl 0, .sl 4 (s.map ePkg), iI s.length, iI k] [.arr false 1 (w.map iI)]) (Is (.osl 0) [.arr false 1 ((filesP s).map iI)]) := by
  refine up_ind ?_
  intro i hi ih w hw k c hk
  subst hk
  have hnext : i < s.length → ∀ c, Ev (fun n => L43_5 (callF prg n) (n + 1) 0 (n + 1 - c) (.osl 0) (.sl 4 (s.map ePkg)) (iI s.length) (iI ((i : Int) + 1)) [.arr false 1 ((putF w (nth s i).files).map iI)]) (Is (.osl 0) [.arr false 1 ((filesP s).map iI)]) := by
    intro hi2 c
    repeat' (first | ((with_reducible refine eG ?_); first | (with_reducible first | refine ev_gtt ?_ | refine ev_gff ?_ | refine ev_gtf ?_ | refine ev_gft ?_ | refine ev_gu ?_) | refine ev_bd rfl ?_ | refine ev_bd0 rfl ?_ | ((with_reducible refine ev_gB ?_ ?_) <;> intro h)) | ((with_reducible refine eB ?_); first | ((with_reducible first | refine ev_lss ?_ ?_ | refine ev_leq ?_ ?_ | refine ev_gtr ?_ ?_ | refine ev_geq ?_ ?_ | refine ev_eql ?_ ?_ | refine ev_neq ?_ ?_) <;> intro h <;> try (exfalso; omega)) | ((with_reducible first | refine ev_add ?_ ?_ | refine ev_sub ?_ ?_ | refine ev_mul ?_ ?_); · omega) | ((with_reducible refine ev_quo ?_ ?_ ?_); (· omega); (· omega); intro x hx hx0 hx1) | ((with_reducible refine ev_rem ?_ ?_); (· omega); intro x hx hx0 hx1) | ((with_reducible first | refine ev_eql3 ?_ ?_ ?_ | refine ev_neq3 ?_ ?_ ?_ | refine ev_eql2 ?_ ?_ ?_ | refine ev_neq2 ?_ ?_ ?_); (· rfl); all_goals intro h) | refine ev_bd rfl ?_ | refine ev_bd0 rfl ?_) | ((with_reducible refine eL ?_); first | ((with_reducible refine ev_lenm ?_ ?_); · rfl) | refine ev_lenom rfl rfl ?_ | refine ev_lenfm rfl rfl ?_ | refine ev_lenoc rfl rfl rfl ?_ | refine ev_lenc rfl rfl ?_ | refine ev_leno rfl rfl ?_ | refine ev_slen rfl ?_ | refine ev_bd rfl ?_ | refine ev_bd0 rfl ?_) | ((with_reducible refine eI ?_); first | ((with_reducible refine ev_idxn ?_ ?_ ?_); (· rfl); · omega) | (refine ev_idxon rfl rfl ?_ ?_; (· first | omega | (simp only [List.length_cons, List.length_nil, List.length_map, List.length_append]; omega))) | (refine ev_idxfn rfl rfl ?_ ?_; (focus omega)) | ((with_reducible refine ev_idx ?_ ?_ ?_); (· rfl); · omega) | (refine ev_idxo rfl rfl ?_ ?_; (· first | omega | (simp only [List.length_cons, List.length_nil, List.length_map, List.length_append]; omega))) | (refine ev_idxf rfl rfl ?_ ?_; (focus omega)) | refine ev_bd rfl ?_ | refine ev_bd0 rfl ?_) | ((with_reducible refine eS ?_); first | ((with_reducible first | refine ev_slh ?_ ?_ ?_ | refine ev_sll ?_ ?_ ?_); (· rfl); · omega) | ((first | refine ev_slvh rfl rfl ?_ ?_ | refine ev_slvl rfl rfl ?_ ?_); (· first | omega | (simp only [List.length_cons, List.length_nil, List.length_map, List.length_append]; omega))) | refine ev_bd rfl ?_ | refine ev_bd0 rfl ?_) | ((with_reducible refine eC ?_); first | fail) | (with_reducible refine ev_callee ?_) | ((with_reducible refine eA ?_); first | (refine ev_app rfl rfl rfl rfl rfl ?_ ?_; · first | decide | (simp only [List.length_append, List.length_cons, List.length_nil, List.length_map, List.length_take, List.length_drop]; omega))) | ((with_reducible refine eV ?_); first | ((with_reducible refine ev_conv64 ?_ ?_ ?_ ?_); (· rfl); (· rfl); · omega) | refine ev_bd rfl ?_ | refine ev_bd0 rfl ?_) | ((with_reducible refine eK ?_); first | (with_reducible first | refine ev_ct ?_ | refine ev_cf ?_) | ((with_reducible refine ev_cond ?_ ?_) <;> intro h)) | ((with_reducible refine eO ?_); first | refine ev_bd rfl ?_ | (refine ev_bdB rfl ?_ ?_ <;> intro h <;> try (exfalso; simp_all; done)) | refine ev_bd0 rfl ?_ | (refine ev_ldm rfl ?_ rfl ?_; (focus omega)) | (refine ev_ldmB rfl ?_ rfl ?_ ?_; (focus omega); (all_goals intro h)) | (refine ev_ldz rfl rfl rfl ?_ ?_ ?_; (· simp); (· first | omega | (simp only [List.length_cons, List.length_nil, List.length_map, List.length_append]; omega)); intro w)) | ((with_reducible refine eD ?_); first | refine ev_bd rfl ?_ | refine ev_bd0 rfl ?_ | ((with_reducible refine ev_pickB ?_ ?_) <;> intro h)) | ((with_reducible refine ev_dchk ?_ ?_); · intro _; rfl) | ((with_reducible refine eH ?_); first | refine ev_gcB rfl ?_) | (with_reducible first | refine UL43_5 ?_ | refine VL43_5 ?_) | ( exact ih hi2 _ (by rw [filesTo_step (by omega), hw]) _ _ rfl) | refine ev_ret rfl ?_)
  (refine UG43_5 _ ?_; unfold GB43_5)
  repeat' (first | ((with_reducible refine eB ?_); first | ((with_reducible refine ev_lss ?_ ?_) <;> intro h <;> try (exfalso; omega)) | refine ev_bd rfl ?_ | refine ev_bd0 rfl ?_) | ((with_reducible refine eL ?_); first | ((with_reducible refine ev_lenm ?_ ?_); · rfl) | refine ev_lenom rfl rfl ?_ | refine ev_lenfm rfl rfl ?_ | refine ev_lenoc rfl rfl rfl ?_ | refine ev_lenc rfl rfl ?_ | refine ev_leno rfl rfl ?_ | refine ev_slen rfl ?_ | refine ev_bd rfl ?_ | refine ev_bd0 rfl ?_) | ((with_reducible refine eI ?_); first | ((with_reducible refine ev_idxn ?_ ?_ ?_); (· rfl); · omega) | (refine ev_idxon rfl rfl ?_ ?_; (· first | omega | (simp only [List.length_cons, List.length_nil, List.length_map, List.length_append]; omega))) | (refine ev_idxfn rfl rfl ?_ ?_; (focus omega)) | ((with_reducible refine ev_idx ?_ ?_ ?_); (· rfl); · omega) | (refine ev_idxo rfl rfl ?_ ?_; (· first | omega | (simp only [List.length_cons, List.length_nil, List.length_map, List.length_append]; omega))) | (refine ev_idxf rfl rfl ?_ ?_; (focus omega)) | refine ev_bd rfl ?_ | refine ev_bd0 rfl ?_) | ((with_reducible refine eK ?_); first | (with_reducible first | refine ev_ct ?_ | refine ev_cf ?_) | ((with_reducible refine ev_cond ?_ ?_) <;> intro h)) | ((with_reducible refine eO ?_); first | refine ev_bd rfl ?_ | (refine ev_bdB rfl ?_ ?_ <;> intro h <;> try (exfalso; simp_all; done)) | refine ev_bd0 rfl ?_ | (refine ev_ldm rfl ?_ rfl ?_; (focus omega)) | (refine ev_ldmB rfl ?_ rfl ?_ ?_; (focus omega); (all_goals intro h))) | ((with_reducible refine eD ?_); first | refine ev_bd rfl ?_ | refine ev_bd0 rfl ?_) | ((with_reducible refine eH ?_); first | refine ev_gcB rfl ?_) | (with_reducible first | refine UL43_8 ?_ | refine VL43_8 ?_) | ( exact s_PlanFilesI_L8 s hs hp0 hpt _ i (by omega) w (by rw [hw]; exact filesTo_len _ _) (hnext (by omega) _) 0 (by omega) w rfl 0 _ rfl) | refine ev_ret rfl ?_)
  all_goals exact ⟨rfl, by rw [hw, show i = s.length by omega, filesTo_all]⟩
theorem s_PlanFilesI (s : List TPkg) (hs : s.length ≤ 2000000) (hp0 : PL s) : Ex (fun m => callF prg m 43 [.sl 4 (s.map ePkg)] []) (.osl 0) [.arr false 1 ((planFiles s).map iI)] := by
  refine ev_is.1 ?_
  (refine U43 (nl := 0) rfl ?_; unfold B43)
  repeat' (first | ((with_reducible refine eL ?_); first | ((with_reducible refine ev_lenm ?_ ?_); · rfl) | refine ev_lenom rfl rfl ?_ | refine ev_lenfm rfl rfl ?_ | refine ev_lenoc rfl rfl rfl ?_ | refine ev_lenc rfl rfl ?_ | refine ev_leno rfl rfl ?_ | refine ev_slen rfl ?_ | refine ev_bd rfl ?_ | refine ev_bd0 rfl ?_) | ((with_reducible refine eC ?_); first | ((refine ev_callB (s_PlanOkI s hs hp0) rfl rfl ?_ rfl rfl ?_ ?_); (focus first | exact .inl rfl | exact .inr rfl | (refine .inr ?_; simp [flagC, ownF, hasSl3, hasSl1, SO.hasSl, List.all_map, flatSV, SV.cells, Function.comp_def]; done)); (all_goals (intro h)); (all_goals (try (exfalso; simp_all; done)))) | ((refine ev_call (s_Repeat6 ..) rfl rfl ?_ rfl ?_); (focus first | exact .inl rfl | exact .inr rfl | (refine .inr ?_; simp [flagC, ownF, hasSl3, hasSl1, SO.hasSl, List.all_map, flatSV, SV.cells, Function.comp_def]; done)))) | ((with_reducible refine eK ?_); first | (with_reducible first | refine ev_ct ?_ | refine ev_cf ?_) | ((with_reducible refine ev_cond ?_ ?_) <;> intro h)) | ((with_reducible refine eD ?_); first | refine ev_bd rfl ?_ | refine ev_bd0 rfl ?_) | ((with_reducible refine eH ?_); first | refine ev_gcB rfl ?_) | (with_reducible first | refine UL43_5 ?_ | refine VL43_5 ?_) | ( ((rw [show planFiles s = filesP s from if_pos (by assumption)]); exact s_PlanFilesI_L5 s hs hp0 (plan_paths (by assumption)) 0 (by omega) none6 rfl _ _ rfl)) | refine ev_ret rfl ?_)
  all_goals exact ⟨rfl, by simp [planFiles, h]⟩
end Go.Proofs.Ytikennabfbkdhaa
