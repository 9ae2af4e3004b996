/- The evaluator S and what it says of functions: V30, V4, V5, V31, V32, V33, V34. -/
import Derived.Test.YtlnenahbffkbiaaV27
import Derived.Test.YtlnenahbffkbiaaV6
import Derived.Test.YtlnenahbffkbiaaTb
/- What is to be in, by the program: the search, the newer one, what is put in. -/
namespace Go.Proofs.Ytlnenahbffkbiaa
open Go
set_option linter.unusedVariables false
set_option linter.unusedSimpArgs false
set_option maxHeartbeats 4000000
theorem withP_at {l : List TPkg} {p : TPkg} {i : Nat} (hi : i ≤ l.length) (h1 : ∀ k, k < i → pless (nth l k) p) (h2 : ∀ k, i ≤ k → k < l.length → pless p (nth l k)) : withP l p = l.take i ++ p :: l.drop i := by
  have a1 : ∀ x, x ∈ l.take i → pless x p := fun x hx => by
    obtain ⟨k, hk, rfl⟩ := mem_nth hx
    rw [List.length_take] at hk
    have : nth (l.take i) k = nth l k := by simp only [nth, List.getD_eq_getElem?_getD, List.getElem?_take]; rw [if_pos (by omega)]
    rw [this]; exact h1 k (by omega)
  have a2 : ∀ x, x ∈ l.drop i → pless p x := fun x hx => by
    obtain ⟨k, hk, rfl⟩ := mem_nth hx
    rw [List.length_drop] at hk
    have : nth (l.drop i) k = nth l (i + k) := by simp only [nth, List.getD_eq_getElem?_getD, List.getElem?_drop]
    rw [this]; exact h2 _ (by omega) (by omega)
  have asym : ∀ {x y : TPkg}, pless x y → ¬ pless y x := fun {x y} h h' => by unfold pless at h h'; omega
  unfold withP
  have e : l = l.take i ++ l.drop i := (List.take_append_drop i l).symm
  have f1 : (l.filter fun x => decide (pless x p)) = l.take i := by
    conv => lhs; rw [e]
    rw [List.filter_append, List.filter_eq_self.2 (fun x hx => decide_eq_true (a1 x hx)), List.filter_eq_nil_iff.2 (fun x hx => by simpa using asym (a2 x hx)), List.append_nil]
  have f2 : (l.filter fun x => decide (pless p x)) = l.drop i := by
    conv => lhs; rw [e]
    rw [List.filter_append, List.filter_eq_self.2 (fun x hx => decide_eq_true (a2 x hx)), List.filter_eq_nil_iff.2 (fun x hx => by simpa using asym (a1 x hx)), List.nil_append]
  rw [f1, f2]; simp
structure Put (l : List TPkg) (p : TPkg) : Prop where
  so : srt l
  ne : ∀ x, x ∈ l → x.name ≠ p.name
  len : l.length ≤ 1000
theorem srt_nth {l : List TPkg} (h : srt l) {i j : Nat} (hij : i < j) (hj : j < l.length) : (nth l i).name < (nth l j).name := by
  have := List.pairwise_iff_getElem.1 h i j (by omega) hj hij
  simpa [nth, List.getD_eq_getElem?_getD, hj, show i < l.length by omega] using this
theorem s_bsearch_L (l : List TPkg) (p : TPkg) (hp : Put l p) : ∀ (μ i j : Nat) (ki kj : Int) (c : Nat), j - i < μ → i ≤ j → j ≤ l.length → ki = i → kj = j → (∀ k, k < i → pless (nth l k) p) → (∀ k, j ≤ k → k < l.length → pless p (nth l k)) →
    Ev (fun n => L50_3 (callF prg n) (n + 1) 0 (n + 1 - c) (.sl 4 (l.map ePkg)) (.fn 47 []) (.ptr 0 0) (iI l.length) (iI ki) (iI kj) [.box [iI p.name, iI p.ver, .sl 2 (p.files.map eFile), .sl 2 (p.deps.map eDep)]])
      (fun x os => ∃ i : Nat, x = .tup [iI i, bB false] ∧ os = [] ∧ i ≤ l.length ∧ withP l p = l.take i ++ p :: l.drop i) := by
  intro μ
  induction μ with
  | zero => intro i j ki kj c h; omega
  | succ μ ih =>
  intro i j ki kj c hμ hij hj hki hkj h1 h2
  subst hki hkj
  have hll := hp.len
  have hh : IntKind.i64.wrap ((IntKind.u64.wrap ((i : Int) + (j : Int))).fdiv (2 ^ min (Int.toNat 1) IntKind.u64.bits)) = (((i + j) / 2 : Nat) : Int) := by
    have e1 : IntKind.u64.wrap ((i : Int) + (j : Int)) = (i : Int) + (j : Int) := by
      simp [IntKind.wrap, IntKind.bits, IntKind.signed]
      omega
    have e2 : (2 : Int) ^ min (Int.toNat 1) IntKind.u64.bits = 2 := rfl
    rw [e1, e2, Int.fdiv_eq_ediv_of_nonneg _ (by omega)]
    simp [IntKind.wrap, IntKind.bits, IntKind.signed]
    omega
  have hz : ∀ (k : Nat), k < l.length → (nth l k).name ≠ p.name := fun k hk => hp.ne _ (nth_mem hk)
  have up : (i + j) / 2 < l.length → pless (nth l ((i + j) / 2)) p → ∀ k, k < (i + j) / 2 + 1 → pless (nth l k) p := fun h9 h8 k hk => by
    by_cases e : k = (i + j) / 2
    · rw [e]; exact h8
    · have h7 := srt_nth hp.so (i := k) (j := (i + j) / 2) (by omega) h9
      have h6 := hz _ h9
      unfold pless at h8 ⊢; omega
  have down : (i + j) / 2 < l.length → pless p (nth l ((i + j) / 2)) → ∀ k, (i + j) / 2 ≤ k → k < l.length → pless p (nth l k) := fun h9 h8 k hk hk2 => by
    by_cases e : k = (i + j) / 2
    · rw [e]; exact h8
    · have h7 := srt_nth hp.so (i := (i + j) / 2) (j := k) (by omega) hk2
      have h6 := hz _ h9
      unfold pless at h8 ⊢; omega
  have hmid := hz ((i + j) / 2)
  have hend := hz i
  (refine UL50_3 ?_; unfold LB50_3)
  repeat' (first | (rw [hh]) | ((with_reducible refine eG ?_); first | (with_reducible first | refine ev_gtt ?_ | refine ev_gff ?_ | refine ev_gtf ?_ | refine ev_gft ?_ | refine ev_gu ?_) | refine ev_bd rfl ?_ | refine ev_bd0 rfl ?_ | ((with_reducible refine ev_gB ?_ ?_) <;> intro h)) | ((with_reducible refine eB ?_); first | ((with_reducible first | refine ev_lss ?_ ?_ | refine ev_eql ?_ ?_) <;> intro h <;> try (exfalso; omega)) | ((with_reducible refine ev_add ?_ ?_); · omega) | refine ev_bd rfl ?_ | refine ev_bd0 rfl ?_) | ((with_reducible refine eI ?_); first | ((with_reducible refine ev_idxn ?_ ?_ ?_); (· rfl); · omega) | (refine ev_idxon rfl rfl ?_ ?_; (· first | omega | (simp only [List.length_cons, List.length_nil, List.length_map, List.length_append]; omega))) | (refine ev_idxfn rfl rfl ?_ ?_; (focus omega)) | ((with_reducible refine ev_idx ?_ ?_ ?_); (· rfl); · omega) | (refine ev_idxo rfl rfl ?_ ?_; (· first | omega | (simp only [List.length_cons, List.length_nil, List.length_map, List.length_append]; omega))) | (refine ev_idxf rfl rfl ?_ ?_; (focus omega)) | refine ev_bd rfl ?_ | refine ev_bd0 rfl ?_) | ((with_reducible refine eC ?_); first | ((refine ev_callN (s_compare _ _ _ _ _ _ _ _) rfl rfl ?_ (fun _ => rfl) ?_); (· first | exact .inl rfl | exact .inr (fun _ => rfl)); (first | (have q0 := z3; clear q0; intro z4 hz4) | (have q0 := z2; clear q0; intro z3 hz3) | (have q0 := z; clear q0; intro z2 hz2) | (intro z hz)))) | (with_reducible refine ev_callee ?_) | ((with_reducible refine eV ?_); first | ((with_reducible refine ev_conv64 ?_ ?_ ?_ ?_); (· rfl); (· rfl); · omega) | refine ev_bd rfl ?_ | refine ev_bd0 rfl ?_) | ((with_reducible refine eK ?_); first | (with_reducible first | refine ev_ct ?_ | refine ev_cf ?_) | ((with_reducible refine ev_cond ?_ ?_) <;> intro h)) | ((with_reducible refine eO ?_); first | refine ev_bd rfl ?_ | (refine ev_bdB rfl ?_ ?_ <;> intro h <;> try (exfalso; simp_all; done)) | refine ev_bd0 rfl ?_ | (refine ev_ldm rfl ?_ rfl ?_; (focus omega)) | (refine ev_ldmB rfl ?_ rfl ?_ ?_; (focus omega); (all_goals intro h))) | ((with_reducible refine eD ?_); first | refine ev_bd rfl ?_ | refine ev_bd0 rfl ?_ | ((with_reducible refine ev_pickB ?_ ?_) <;> intro h)) | ((with_reducible refine ih ((i + j) / 2 + 1) j _ _ _ ?_ ?_ ?_ ?_ ?_ (up ?_ ?_) h2) <;> (first | omega | assumption | ((unfold pless; (try simp only [Int.toNat_natCast, tn_sub1, tn_add1] at *); omega)) | (simp only [*, List.map_append, List.length_append, List.length_cons, List.length_nil, List.map_cons, List.map_nil]; done) | (simp_all; done) | (simp_all; omega))) | ((with_reducible refine ih i ((i + j) / 2) _ _ _ ?_ ?_ ?_ ?_ ?_ h1 (down ?_ ?_)) <;> (first | omega | assumption | ((unfold pless; (try simp only [Int.toNat_natCast, tn_sub1, tn_add1] at *); omega)) | (simp only [*, List.map_append, List.length_append, List.length_cons, List.length_nil, List.map_cons, List.map_nil]; done) | (simp_all; done) | (simp_all; omega))) | refine ev_ret rfl ?_)
  all_goals first
    | (exfalso; (try simp only [Int.toNat_natCast, tn_sub1, tn_add1] at *); omega)
    | exact ⟨i, rfl, rfl, by omega, withP_at (by omega) h1 (fun k hk hk2 => h2 k (by omega) hk2)⟩
    | trace_state
theorem s_bsearch (l : List TPkg) (p : TPkg) (hp : Put l p) : Ev (fun m => callF prg m 50 [.sl 4 (l.map ePkg), ePkg p, .fn 47 []] [])
    (fun x os => ∃ i : Nat, x = .tup [iI i, bB false] ∧ os = [] ∧ i ≤ l.length ∧ withP l p = l.take i ++ p :: l.drop i) := by
  have hll := hp.len
  (refine U50 (nl := 0) rfl ?_; unfold B50)
  repeat' (first | ((with_reducible refine eL ?_); first | ((with_reducible refine ev_lenm ?_ ?_); · rfl) | refine ev_lenom rfl rfl ?_ | refine ev_lenfm rfl rfl ?_ | refine ev_lenoc rfl rfl rfl ?_ | refine ev_lenc rfl rfl ?_ | refine ev_leno rfl rfl ?_ | refine ev_slen rfl ?_ | refine ev_bd rfl ?_ | refine ev_bd0 rfl ?_) | ((with_reducible refine eD ?_); first | refine ev_bd rfl ?_ | refine ev_bd0 rfl ?_) | ( exact s_bsearch_L l p hp (l.length + 1) 0 l.length _ _ 0 (by omega) (by omega) (by omega) rfl rfl (fun k hk => by omega) (fun k hk hk2 => by omega)) | refine ev_ret rfl ?_)
theorem s_Insert (l : List TPkg) (p : TPkg) (i : Nat) (hi : i ≤ l.length) (hl : l.length ≤ 1000000) : Ex (fun m => callF prg m 51 [.osl 0, iI i, .osl 1] [.arr true 4 (l.map ePkg), .arr true 4 [ePkg p]]) (.osl 2) [.dead, .arr true 4 [ePkg p], .arr true 4 ((l.take i ++ p :: l.drop i).map ePkg)] := by
  refine ⟨1, fun n hn => ?_⟩
  obtain ⟨n, rfl⟩ : ∃ m, n = m + 1 := ⟨n - 1, by omega⟩
  show callF prg (n + 1) _ _ _ = _
  rw [E51]
  simp only [insS, List.length_map]
  rw [if_pos (by simp; omega)]
  simp
theorem s_put (l : List TPkg) (p : TPkg) (hp : Put l p) (h1 : p.files.length ≤ 2000000) (h2 : p.deps.length ≤ 2000000) : Ev (fun m => callF prg m 29 [.osl 0, ePkg p] [.arr true 4 (l.map ePkg)]) (Is (.tup [.osl 1, bB true]) [.dead, .arr true 4 ((withP l p).map ePkg)]) := by
  have hll := hp.len
  (refine U29 (nl := 1) rfl ?_; unfold B29)
  repeat' (first | ((with_reducible refine eC ?_); first | ((refine ev_callE (s_bsearch l p hp) rfl rfl ?_); ((rintro _ _ ⟨i, rfl, rfl, hi, hw⟩) <;> (first | (refine ev_post ?_ rfl ?_; (focus first | exact .inl rfl | exact .inr rfl | (refine .inr ?_; simp [flagC, ownF, hasSl3, hasSl1, SO.hasSl, List.all_map, flatSV, SV.cells, Function.comp_def]; done))) | (refine ev_postF ?_ rfl ?_; (focus first | rfl | (simp [flagC, ownF, hasSl3, hasSl1, SO.hasSl, List.all_map, flatSV, SV.cells, Function.comp_def]; done)))))) | ((refine ev_call (s_copiedPkg _ _ _ _ h1 h2) rfl rfl ?_ rfl ?_); (focus first | exact .inl rfl | exact .inr rfl | (refine .inr ?_; simp [flagC, ownF, hasSl3, hasSl1, SO.hasSl, List.all_map, flatSV, SV.cells, Function.comp_def]; done))) | ((refine ev_call (s_Insert l p i hi (by omega)) rfl rfl ?_ rfl ?_); (focus first | exact .inl rfl | exact .inr rfl | (refine .inr ?_; simp [flagC, ownF, hasSl3, hasSl1, SO.hasSl, List.all_map, flatSV, SV.cells, Function.comp_def]; done)))) | ((with_reducible refine eK ?_); first | (with_reducible first | refine ev_ct ?_ | refine ev_cf ?_) | ((with_reducible refine ev_cond ?_ ?_) <;> intro h)) | ((with_reducible refine eO ?_); first | refine ev_bd rfl ?_ | (refine ev_bdB rfl ?_ ?_ <;> intro h <;> try (exfalso; simp_all; done)) | refine ev_bd0 rfl ?_ | (refine ev_ldm rfl ?_ rfl ?_; (focus omega)) | (refine ev_ldmB rfl ?_ rfl ?_ ?_; (focus omega); (all_goals intro h)) | (refine ev_ldz rfl rfl rfl ?_ ?_ ?_; (· simp); (· first | omega | (simp only [List.length_cons, List.length_nil, List.length_map, List.length_append]; omega)); intro w)) | ((with_reducible refine eD ?_); first | refine ev_bd rfl ?_ | refine ev_bd0 rfl ?_) | refine ev_ret rfl ?_)
  all_goals (rw [hw]; exact ⟨rfl, rfl⟩)
theorem newestP_yes {s : List TPkg} {n : Int} (h : 0 ≤ newIx s n) : newestP s n = (nth s (newIx s n).toNat, true) := if_pos h
theorem newestP_no {s : List TPkg} {n : Int} (h : ¬ 0 ≤ newIx s n) : newestP s n = (zPkg, false) := if_neg h
theorem pick_hv {st hv : List TPkg} {n : Int} (h : 0 ≤ newIx hv n) (h2 : newIx st n < 0 ∨ (nth st (newIx st n).toNat).ver ≤ (nth hv (newIx hv n).toNat).ver) : pickP st hv n = (nth hv (newIx hv n).toNat, true) := by
  unfold pickP
  rw [newestP_yes h]
  rw [if_neg]
  rintro ⟨h3, h4⟩
  by_cases h5 : 0 ≤ newIx st n
  · rw [newestP_yes h5] at h4
    rcases h4 with h4 | h4
    · cases h4
    · dsimp only at h4; omega
  · rw [newestP_no h5] at h3; cases h3
theorem pick_st {st hv : List TPkg} {n : Int} (h : 0 ≤ newIx st n) (h2 : ¬ 0 ≤ newIx hv n ∨ ¬ (nth st (newIx st n).toNat).ver ≤ (nth hv (newIx hv n).toNat).ver) : pickP st hv n = (nth st (newIx st n).toNat, true) := by
  unfold pickP
  rw [newestP_yes h, if_pos]
  refine ⟨rfl, ?_⟩
  by_cases h5 : 0 ≤ newIx hv n
  · rw [newestP_yes h5]; right; dsimp only; omega
  · rw [newestP_no h5]; exact .inl rfl
theorem pick_no {st hv : List TPkg} {n : Int} (h : ¬ 0 ≤ newIx st n) (h2 : ¬ 0 ≤ newIx hv n) : pickP st hv n = (zPkg, false) := by
  unfold pickP
  rw [newestP_no h, newestP_no h2, if_neg (by rintro ⟨h3, -⟩; cases h3)]
def QNewer (r : TPkg × Bool) : SV → List SO → Prop := fun x os => ∃ p, (r = (p, true) ∧ x = .tup [ePkg p, bB true] ∧ os = []) ∨ (r = (p, false) ∧ x = .tup [rPkg p 0 1, bB false] ∧ os = oPkg p)
theorem s_newer (st hv : List TPkg) (hs : st.length ≤ 2000000) (hs2 : hv.length ≤ 2000000) (n : Int) : Ev (fun m => callF prg m 28 [.sl 4 (st.map ePkg), .sl 4 (hv.map ePkg), iI n] []) (QNewer (pickP st hv n)) := by
  have a1 : 0 ≤ newIx st n → newIx st n < st.length := newIx_lt
  have a2 : 0 ≤ newIx hv n → newIx hv n < hv.length := newIx_lt
  (refine U28 (nl := 0) rfl ?_; unfold B28)
  repeat' (first | ((with_reducible refine eG ?_); first | (with_reducible first | refine ev_gtt ?_ | refine ev_gff ?_ | refine ev_gtf ?_ | refine ev_gft ?_ | refine ev_gu ?_) | refine ev_bd rfl ?_ | refine ev_bd0 rfl ?_ | ((with_reducible refine ev_gB ?_ ?_) <;> intro h)) | ((with_reducible refine eB ?_); first | ((with_reducible first | refine ev_lss ?_ ?_ | refine ev_geq ?_ ?_) <;> intro h <;> try (exfalso; omega)) | refine ev_bd rfl ?_ | refine ev_bd0 rfl ?_) | ((with_reducible refine eI ?_); first | ((with_reducible refine ev_idxn ?_ ?_ ?_); (· rfl); · omega) | (refine ev_idxon rfl rfl ?_ ?_; (· first | omega | (simp only [List.length_cons, List.length_nil, List.length_map, List.length_append]; omega))) | (refine ev_idxfn rfl rfl ?_ ?_; (focus omega)) | ((with_reducible refine ev_idx ?_ ?_ ?_); (· rfl); · omega) | (refine ev_idxo rfl rfl ?_ ?_; (· first | omega | (simp only [List.length_cons, List.length_nil, List.length_map, List.length_append]; omega))) | (refine ev_idxf rfl rfl ?_ ?_; (focus omega)) | refine ev_bd rfl ?_ | refine ev_bd0 rfl ?_) | ((with_reducible refine eC ?_); first | ((refine ev_call (s_newest st hs n) rfl rfl ?_ rfl ?_); (focus first | exact .inl rfl | exact .inr rfl | (refine .inr ?_; simp [flagC, ownF, hasSl3, hasSl1, SO.hasSl, List.all_map, flatSV, SV.cells, Function.comp_def]; done))) | ((refine ev_call (s_newest hv hs2 n) rfl rfl ?_ rfl ?_); (focus first | exact .inl rfl | exact .inr rfl | (refine .inr ?_; simp [flagC, ownF, hasSl3, hasSl1, SO.hasSl, List.all_map, flatSV, SV.cells, Function.comp_def]; done)))) | ((with_reducible refine eK ?_); first | (with_reducible first | refine ev_ct ?_ | refine ev_cf ?_) | ((with_reducible refine ev_cond ?_ ?_) <;> intro h)) | ((with_reducible refine eO ?_); first | refine ev_bd rfl ?_ | (refine ev_bdB rfl ?_ ?_ <;> intro h <;> try (exfalso; simp_all; done)) | refine ev_bd0 rfl ?_ | (refine ev_ldm rfl ?_ rfl ?_; (focus omega)) | (refine ev_ldmB rfl ?_ rfl ?_ ?_; (focus omega); (all_goals intro h))) | ((with_reducible refine eD ?_); first | refine ev_bd rfl ?_ | refine ev_bd0 rfl ?_ | ((with_reducible refine ev_pickB ?_ ?_) <;> intro h)) | refine ev_ret rfl ?_)
  all_goals first
    | exact ⟨_, .inl ⟨pick_hv (by omega) (by omega), rfl, rfl⟩⟩
    | exact ⟨_, .inl ⟨pick_st (by omega) (by omega), rfl, rfl⟩⟩
    | exact ⟨_, .inr ⟨pick_no (by omega) (by omega), rfl, rfl⟩⟩
    | trace_state
end Go.Proofs.Ytlnenahbffkbiaa

/- Trust begins with a root. -/
namespace Go.Proofs.Ytlnenahbffkbiaa
open Go
set_option linter.unusedVariables false
set_option linter.unusedSimpArgs false
set_option maxHeartbeats 4000000
def zTrust : TTrust := ⟨⟨0, [], 0⟩, false, ⟨0, 0, []⟩⟩
def trustNew (r : TRoot) : TTrust × Bool := if rootOk r.num r.keys r.need = true then (⟨r, false, ⟨0, 0, []⟩⟩, true) else (zTrust, false)
def QTrust (p : TTrust × Bool) : SV → List SO → Prop := fun x os => ∃ t ok, p = (t, ok) ∧ x = .tup [rTrust t, bB ok] ∧ os = oTrust t
end Go.Proofs.Ytlnenahbffkbiaa

/- Keys among both; who has signed. -/
namespace Go.Proofs.Ytlnenahbffkbiaa
open Go
set_option linter.unusedVariables false
set_option linter.unusedSimpArgs false
set_option maxHeartbeats 4000000
def cnt (b : List Int) (v : Int) : Nat := (b.filter fun x => decide (v = x)).length
def both' (a b : List Int) : Nat := (a.filter fun x => decide (x ∈ b)).length
def pairs (a b : List Int) : Nat := (a.map (cnt b)).sum
theorem s_IndexInt_L (l : List Int) (v : Int) (hl : l.length ≤ 140737488355328) : ∀ i, i ≤ l.length → v ∉ l.take i → ∀ (k : Int) (c : Nat), k = i →
    Ev (fun n => L49_2 (callF prg n) (n + 1) 0 (n + 1 - c) (.sl 1 (l.map iI)) (iI v) (iI l.length) (iI k) []) (fun x os => ∃ z : Int, x = iI z ∧ os = [] ∧ (0 ≤ z ↔ v ∈ l)) := by
  refine up_ind ?_
  intro i hi ih hp k c hk
  subst hk
  (refine UL49_2 ?_; unfold LB49_2)
  repeat' (first | ((with_reducible refine eB ?_); first | ((with_reducible first | refine ev_lss ?_ ?_ | refine ev_eql ?_ ?_) <;> intro h <;> try (exfalso; omega)) | ((with_reducible refine ev_add ?_ ?_); · omega) | refine ev_bd rfl ?_ | refine ev_bd0 rfl ?_) | ((with_reducible refine eI ?_); first | ((with_reducible refine ev_idx ?_ ?_ ?_); (· rfl); · omega) | (refine ev_idxo rfl rfl ?_ ?_; (· first | omega | (simp only [List.length_cons, List.length_nil, List.length_map, List.length_append]; omega))) | refine ev_bd rfl ?_ | refine ev_bd0 rfl ?_) | ((with_reducible refine eK ?_); first | (with_reducible first | refine ev_ct ?_ | refine ev_cf ?_) | ((with_reducible refine ev_cond ?_ ?_) <;> intro h)) | ((with_reducible refine eO ?_); first | refine ev_bd rfl ?_ | (refine ev_bdB rfl ?_ ?_ <;> intro h <;> try (exfalso; simp_all; done)) | refine ev_bd0 rfl ?_) | ((with_reducible refine eD ?_); first | refine ev_bd rfl ?_ | refine ev_bd0 rfl ?_) | ((with_reducible refine ih ?_ ?_ _ _ ?_) <;> (first | omega | assumption | ((rw [take_nth (by omega)]; simp_all)) | (simp only [*, List.map_append, List.length_append, List.length_cons, List.length_nil, List.map_cons, List.map_nil]; done) | (simp_all; done) | (simp_all; omega))) | refine ev_ret rfl ?_)
  · refine ⟨_, rfl, rfl, ?_⟩
    simp only [Int.toNat_natCast] at h
    have := nth_mem (l := l) (k := i) (by omega)
    rw [← h] at this
    simp [this]
  · refine ⟨_, rfl, rfl, ?_⟩
    rw [List.take_of_length_le (by omega)] at hp
    simp [hp]
theorem s_IndexInt (l : List Int) (v : Int) (hl : l.length ≤ 140737488355328) : ∃ z : Int, (0 ≤ z ↔ v ∈ l) ∧ Ex (fun m => callF prg m 49 [.sl 1 (l.map iI), iI v] []) (iI z) [] := by
  have key : Ev (fun m => callF prg m 49 [.sl 1 (l.map iI), iI v] []) (fun x os => ∃ z : Int, x = iI z ∧ os = [] ∧ (0 ≤ z ↔ v ∈ l)) := by
    (refine U49 (nl := 0) rfl ?_; unfold B49)
    repeat' (first | ((with_reducible refine eL ?_); first | ((with_reducible refine ev_lenm ?_ ?_); · rfl) | refine ev_lenom rfl rfl ?_ | refine ev_lenoc rfl rfl rfl ?_ | refine ev_lenc rfl rfl ?_ | refine ev_leno rfl rfl ?_ | refine ev_slen rfl ?_ | refine ev_bd rfl ?_ | refine ev_bd0 rfl ?_) | ((with_reducible refine eD ?_); first | refine ev_bd rfl ?_ | refine ev_bd0 rfl ?_) | ( exact s_IndexInt_L l v hl 0 (by omega) (by simp) 0 0 rfl) | refine ev_ret rfl ?_)
  obtain ⟨x, os, ⟨z, rfl, rfl, hz⟩, he⟩ := key
  exact ⟨z, hz, he⟩
theorem s_ContainsInt (l : List Int) (v : Int) (hl : l.length ≤ 140737488355328) : Ex (fun m => callF prg m 27 [.sl 1 (l.map iI), iI v] []) (bB (decide (v ∈ l))) [] := by
  refine ev_is.1 ?_
  (refine U27 (nl := 0) rfl ?_; unfold B27)
  repeat' (first | ((with_reducible refine eB ?_); first | ((with_reducible refine ev_geq ?_ ?_) <;> intro h <;> try (exfalso; omega)) | refine ev_bd rfl ?_ | refine ev_bd0 rfl ?_) | ((with_reducible refine eC ?_); first | ((refine ev_callN (s_IndexInt _ _ hl) rfl rfl ?_ (fun _ => rfl) ?_); (· first | exact .inl rfl | exact .inr (fun _ => rfl)); (first | (have q0 := z3; clear q0; intro z4 hz4) | (have q0 := z2; clear q0; intro z3 hz3) | (have q0 := z; clear q0; intro z2 hz2) | (intro z hz)))) | ((with_reducible refine eD ?_); first | refine ev_bd rfl ?_ | refine ev_bd0 rfl ?_) | refine ev_ret rfl ?_)
  all_goals (refine ⟨congrArg (fun b => SV.v (Value.bool b)) ?_, rfl⟩; first | (simp_all []; done) | (simp_all []; omega) | (simp [] at *; omega) | (simp []; omega) | grind [] | trace_state)
def rootSigned (r : TRoot) (by_ : List Int) : Bool := rootOk r.num r.keys r.need && keysOk by_ && decide (r.need ≤ both' r.keys by_)
def rootNext (r s : TRoot) (by_ : List Int) : Bool := rootSigned r by_ && rootSigned s by_ && decide (s.num = r.num + 1)
def trustRoot (t : TTrust) (s : TRoot) (b : List Int) : TTrust × Bool :=
  if trustOk t = true then (if rootNext t.root s b = true then (⟨s, t.has, t.index⟩, true) else (t, false)) else (zTrust, false)
def trustIndex (t : TTrust) (x : TIndex) (b : List Int) (now : Int) : TTrust × Bool :=
  if trustOk t = true ∧ 0 ≤ now ∧ now ≤ 60 then
    (if indexOk x.num x.til x.metas = true ∧ rootSigned t.root b = true ∧ ¬ x.til < now ∧ ¬ (t.has = true ∧ x.num ≤ t.index.num) then (⟨t.root, true, x⟩, true) else (t, false))
  else (zTrust, false)
def TP (t : TTrust) (k m : SV) (os : List SO) : Prop :=
  (k = .osl 0 ∧ m = .osl 1 ∧ os = oTrust t) ∨ (k = .sl 1 (t.root.keys.map iI) ∧ m = .sl 3 (t.index.metas.map eMeta) ∧ os = []) ∨
  (k = .osl 0 ∧ m = .sl 3 (t.index.metas.map eMeta) ∧ os = [.arr false 1 (t.root.keys.map iI)]) ∨ (k = .sl 1 (t.root.keys.map iI) ∧ m = .osl 0 ∧ os = [.arr false 3 (t.index.metas.map eMeta)])
abbrev mTrust (t : TTrust) (k m : SV) : SV := .ag [iI t.root.num, k, iI t.root.need, bB t.has, iI t.index.num, iI t.index.til, m]
def QTrustM (p : TTrust × Bool) : SV → List SO → Prop := fun x os => ∃ t ok k m, p = (t, ok) ∧ x = .tup [mTrust t k m, bB ok] ∧ TP t k m os
end Go.Proofs.Ytlnenahbffkbiaa

/- What is to be in, by the program. -/
namespace Go.Proofs.Ytlnenahbffkbiaa
open Go
set_option linter.unusedVariables false
set_option linter.unusedSimpArgs false
set_option maxHeartbeats 4000000
theorem ev_call_vw {own : Nat → Bool} {T : Tab} {K : Nat → Nat → List SV → List SO → Out} {os : List SO} {f j lo hi sz : Nat} {b : Bool} {l : List SV} {x r : Value} {F : Nat → SV → List SO → Out} {Q : SV → List SO → Prop}
    (h3 : Ex (fun n => K n f [.sl sz ((l.take hi).drop lo), .v x] []) (.v r) []) (ho : lendAll own f [.vw j lo hi, .v x] = []) (hn : own (f + 1000000) = false) (hj : os[j]? = some (.arr b sz l)) (hb : lo ≤ hi ∧ hi ≤ l.length)
    (h6 : Ev (fun n => F n (.v r) os) Q) : Ev (fun n => bd (callS ⟨T, own, K n⟩ os f [.vw j lo hi, .v x]) (F n)) Q := by
  refine ev_bdX ?_ h6
  obtain ⟨n0, h0⟩ := h3
  refine ⟨n0, fun n hn' => ?_⟩
  have hk := h0 n hn'
  have he : elems os (.vw j lo hi) = some (sz, (l.take hi).drop lo) := by simp only [elems, hj]; rw [if_pos hb]
  have ha : argVs os [] [.vw j lo hi, .v x] = some [.sl sz ((l.take hi).drop lo), .v x] := by
    simp only [argVs, argV, argCell, place, he]
  show callS _ _ _ _ = _
  unfold callS
  rw [ho]
  have hr : okKeep 0 (reach os 100 [] []) = some [] := rfl
  simp only [hr, ha, gcO, List.map_nil, List.all_nil, if_true]
  have hk' : K n f [.sl sz ((l.take hi).drop lo), .v x] [] = some (.v r, []) := hk
  rw [hk']
  simp [hn, hasSl3, SV.cells, hasSl1, giveBack, ren3, ren2, ren1, ren0]
structure PI (st hv : List TPkg) (name : Int) (ns : List Int) (i : Nat) (out : List TPkg) : Prop where
  rch : ∀ x, x ∈ ns → Reach st hv name x
  nm : name ∈ ns
  hvs : ∀ p, p ∈ hv → p.name ∈ ns
  outp : ∀ p, p ∈ out → pickP st hv p.name = (p, true) ∧ (1 ≤ p.name ∧ p.name ≤ 4) ∧ Reach st hv name p.name ∧ ∃ j, j < i ∧ nth ns j = p.name
  seen : ∀ j, j < i → ∃ p, p ∈ out ∧ p.name = nth ns j
  deps : ∀ p, p ∈ out → ∀ d, d ∈ p.deps → d.name ∈ ns
  so : srt out
  len : ns.length ≤ 1 + hv.length + 2 * out.length
theorem PI.le {st hv : List TPkg} {name : Int} {ns : List Int} {i : Nat} {out : List TPkg} (h : PI st hv name ns i out) : out.length ≤ 4 := by
  have := srt_len (lo := 1) h.so (fun p hp => (h.outp p hp).2.1) (by omega)
  omega
theorem PI.all {st hv : List TPkg} {name : Int} {ns : List Int} {out : List TPkg} (h : PI st hv name ns ns.length out) (hn : 1 ≤ name ∧ name ≤ 4) (ht : tames st) (ht2 : tames hv) : allPick st hv name ∧ out = outP st hv name := by
  have hs : ∀ x, x ∈ ns → ∃ p, p ∈ out ∧ p.name = x := fun x hx => by
    obtain ⟨j, hj, rfl⟩ := mem_nth hx
    exact h.seen j hj
  have key : ∀ n, Reach st hv name n → n ∈ ns := by
    intro n hr
    induction hr with
    | this => exact h.nm
    | was hp => exact h.hvs _ hp
    | need h1 h2 h3 ih =>
      obtain ⟨q, hq, e⟩ := hs _ ih
      have h4 := (h.outp q hq).1
      rw [e, h2] at h4
      obtain ⟨rfl, -⟩ := Prod.mk.inj h4
      exact h.deps _ hq _ h3
  have hin : ∀ n, Reach st hv name n → ∃ p, p ∈ out ∧ p.name = n := fun n hr => hs n (key n hr)
  have ha : allPick st hv name := fun n hr => by
    obtain ⟨p, hp, rfl⟩ := hin n hr
    rw [(h.outp p hp).1]
  refine ⟨ha, srt_ext h.so (outP_srt ha) fun x => ?_⟩
  rw [outP_mem hn ht ht2 ha]
  constructor
  · intro hx; exact ⟨(h.outp x hx).2.2.1, (h.outp x hx).1⟩
  · rintro ⟨h1, h2⟩
    obtain ⟨p, hp, e⟩ := hin _ h1
    have h4 := (h.outp p hp).1
    rw [e, h2] at h4
    obtain ⟨rfl, -⟩ := Prod.mk.inj h4
    exact hp
theorem map_app1 (l : List Int) (x : Int) : l.map iI ++ [iI x] = (l ++ [x]).map iI := by simp
theorem nth_app {l m : List Int} {j : Nat} (h : j < l.length) : nth (l ++ m) j = nth l j := by
  simp only [nth, List.getD_eq_getElem?_getD]; rw [List.getElem?_append_left h]
theorem PI.skip {st hv : List TPkg} {name : Int} {ns : List Int} {i : Nat} {out : List TPkg} (h : PI st hv name ns i out) (hi : i < ns.length) (hc : nth ns i ∈ ns.take i) : PI st hv name ns (i + 1) out := by
  obtain ⟨j, hj, e⟩ := mem_nth hc
  rw [List.length_take] at hj
  have e2 : nth (ns.take i) j = nth ns j := by simp only [nth, List.getD_eq_getElem?_getD, List.getElem?_take]; rw [if_pos (by omega)]
  refine ⟨h.rch, h.nm, h.hvs, fun p hp => ?_, fun k hk => ?_, h.deps, h.so, h.len⟩
  · obtain ⟨a, b, c, k, hk, e3⟩ := h.outp p hp
    exact ⟨a, b, c, k, by omega, e3⟩
  · by_cases e4 : k = i
    · subst e4; rw [← e, e2]; exact h.seen j (by omega)
    · exact h.seen k (by omega)
theorem PI.new {st hv : List TPkg} {name : Int} {ns : List Int} {i : Nat} {out : List TPkg} (h : PI st hv name ns i out) (hi : i < ns.length) (hc : ¬ nth ns i ∈ ns.take i) {p : TPkg} (hp : pickP st hv (nth ns i) = (p, true)) (hn : 1 ≤ name ∧ name ≤ 4) (ht : tames st) (ht2 : tames hv) (hd2 : p.deps.length ≤ 2) :
    Put out p ∧ PI st hv name (ns ++ p.deps.map (·.name)) (i + 1) (withP out p) := by
  obtain ⟨hpn, hpm⟩ := pick_true hp
  have hne : ∀ x, x ∈ out → x.name ≠ p.name := fun x hx e => by
    obtain ⟨-, -, -, j, hj, e3⟩ := h.outp x hx
    refine hc ?_
    rw [← hpn, ← e, ← e3]
    have e2 : nth (ns.take i) j = nth ns j := by simp only [nth, List.getD_eq_getElem?_getD, List.getElem?_take]; rw [if_pos (by omega)]
    rw [← e2]
    exact nth_mem (by rw [List.length_take]; omega)
  have hle := h.le
  have hr : Reach st hv name (nth ns i) := h.rch _ (nth_mem hi)
  have hb := reach_in hn ht ht2 hr
  refine ⟨⟨h.so, hne, by omega⟩, fun x hx => ?_, List.mem_append_left _ h.nm, fun q hq => List.mem_append_left _ (h.hvs q hq), fun q hq => ?_, fun j hj => ?_, fun q hq d hd => ?_, srt_with h.so hne, ?_⟩
  · rcases List.mem_append.1 hx with hx | hx
    · exact h.rch x hx
    · obtain ⟨d, hd, rfl⟩ := List.mem_map.1 hx
      exact .need hr hp hd
  · rcases (mem_with hne q).1 hq with e | rfl
    · obtain ⟨a, b, c, k, hk, e3⟩ := h.outp q e
      exact ⟨a, b, c, k, by omega, by rw [nth_app (by omega)]; exact e3⟩
    · exact ⟨by rw [hpn]; exact hp, by rw [hpn]; exact hb, by rw [hpn]; exact hr, i, by omega, by rw [nth_app hi]; exact hpn.symm⟩
  · by_cases e4 : j = i
    · subst e4; rw [nth_app hi]; exact ⟨p, (mem_with hne p).2 (.inr rfl), hpn⟩
    · rw [nth_app (by omega)]
      obtain ⟨q, hq, e⟩ := h.seen j (by omega)
      exact ⟨q, (mem_with hne q).2 (.inl hq), e⟩
  · rcases (mem_with hne q).1 hq with e | rfl
    · exact List.mem_append_left _ (h.deps q e d hd)
    · exact List.mem_append_right _ (List.mem_map.2 ⟨d, hd, rfl⟩)
  · have := h.len
    rw [len_with hne, List.length_append, List.length_map]; omega
theorem s_PlanForI_L18 (st hv out : List TPkg) (p : TPkg) (hp : Put out p) (h1 : p.files.length ≤ 2000000) (h2 : p.deps.length ≤ 2000000) (ns : List Int) (hns : ns.length ≤ 4000000) (i : Nat) (hi : i ≤ 4000000) (c9 : Nat) {Q : SV → List SO → Prop}
    (hq : Ev (fun n => G11_11 (callF prg n) (n + 1) 0 (n + 1 - (c9 + 1)) [.sl 4 (st.map ePkg), .sl 4 (hv.map ePkg), .osl 0, .osl 1, iI ((i : Int) + 1)] [.arr false 1 ((ns ++ p.deps.map (·.name)).map iI), .arr false 4 ((withP out p).map ePkg)]) Q) :
    ∀ j : Nat, j ≤ p.deps.length → ∀ (ns' : List Int) (k : Int) (c : Nat), k = j → ns' = ns ++ (p.deps.take j).map (·.name) →
    Ev (fun n => G11_18 (callF prg n) (n + 1) 0 (n + 1 - c9) (n + 1 - c) [.sl 4 (st.map ePkg), .sl 4 (hv.map ePkg), .osl 0, .osl 1, iI i, .ptr 2 0, .sl 2 (p.deps.map eDep), iI p.deps.length, iI k] [.arr false 1 (ns'.map iI), .arr false 4 (out.map ePkg), .box [iI p.name, iI p.ver, .sl 2 (p.files.map eFile), .sl 2 (p.deps.map eDep)]]) Q := by
  refine up_ind ?_
  intro j hj ih ns' k c hk hns'
  subst hk
  have hl : ns'.length ≤ 8000000 := by rw [hns']; simp only [List.length_append, List.length_map, List.length_take]; omega
  have hend : ¬ j < p.deps.length → ns' = ns ++ p.deps.map (·.name) := fun h => by rw [hns', List.take_of_length_le (by omega)]
  have hnx : j < p.deps.length → ns' ++ [(nth p.deps j).name] = ns ++ (p.deps.take (j + 1)).map (·.name) := fun h => by rw [hns', take_nth h]; simp
  (refine UG11_18 _ ?_; unfold GB11_18)
  repeat' (first | (rw [map_app1]) | ((with_reducible refine eB ?_); first | ((with_reducible refine ev_lss ?_ ?_) <;> intro h <;> try (exfalso; omega)) | ((with_reducible refine ev_add ?_ ?_); · omega) | refine ev_bd rfl ?_ | refine ev_bd0 rfl ?_) | ((with_reducible refine eI ?_); first | ((with_reducible refine ev_idxn ?_ ?_ ?_); (· rfl); · omega) | (refine ev_idxon rfl rfl ?_ ?_; (· first | omega | (simp only [List.length_cons, List.length_nil, List.length_map, List.length_append]; omega))) | (refine ev_idxfn rfl rfl ?_ ?_; (focus omega)) | ((with_reducible refine ev_idx ?_ ?_ ?_); (· rfl); · omega) | (refine ev_idxo rfl rfl ?_ ?_; (· first | omega | (simp only [List.length_cons, List.length_nil, List.length_map, List.length_append]; omega))) | (refine ev_idxf rfl rfl ?_ ?_; (focus omega)) | refine ev_bd rfl ?_ | refine ev_bd0 rfl ?_) | ((with_reducible refine eC ?_); first | ((refine ev_callE (s_put out p hp h1 h2) rfl rfl ?_); ((rintro _ _ ⟨rfl, rfl⟩) <;> (first | (refine ev_post ?_ rfl ?_; (focus first | exact .inl rfl | exact .inr rfl | (refine .inr ?_; simp [flagC, ownF, hasSl3, hasSl1, SO.hasSl, List.all_map, flatSV, SV.cells, Function.comp_def]; done))) | (refine ev_postF ?_ rfl ?_; (focus first | rfl | (simp [flagC, ownF, hasSl3, hasSl1, SO.hasSl, List.all_map, flatSV, SV.cells, Function.comp_def]; done))))))) | ((with_reducible refine eA ?_); first | (refine ev_app rfl rfl rfl rfl rfl ?_ ?_; · first | decide | (simp only [List.length_append, List.length_cons, List.length_nil, List.length_map, List.length_take, List.length_drop]; omega))) | ((with_reducible refine eK ?_); first | (with_reducible first | refine ev_ct ?_ | refine ev_cf ?_) | ((with_reducible refine ev_cond ?_ ?_) <;> intro h)) | ((with_reducible refine eO ?_); first | refine ev_bd rfl ?_ | (refine ev_bdB rfl ?_ ?_ <;> intro h <;> try (exfalso; simp_all; done)) | refine ev_bd0 rfl ?_ | (refine ev_ldm rfl ?_ rfl ?_; (focus omega)) | (refine ev_ldmB rfl ?_ rfl ?_ ?_; (focus omega); (all_goals intro h)) | (refine ev_ldz rfl rfl rfl ?_ ?_ ?_; (· simp); (· first | omega | (simp only [List.length_cons, List.length_nil, List.length_map, List.length_append]; omega)); intro w)) | ((with_reducible refine eD ?_); first | refine ev_bd rfl ?_ | refine ev_bd0 rfl ?_) | ((with_reducible refine eH ?_); first | refine ev_gcB rfl ?_) | ((with_reducible refine UJ11_12 ?_); (unfold JB11_12)) | (with_reducible first | refine UL11_11 ?_ | refine VL11_11 ?_) | (with_reducible first | refine UL11_18 ?_ | refine VL11_18 ?_) | ((with_reducible refine ih ?_ (ns' ++ [(nth p.deps j).name]) _ _ ?_ (hnx ?_)) <;> (first | omega | assumption | (simp only [*, List.map_append, List.length_append, List.length_cons, List.length_nil, List.map_cons, List.map_nil]; done) | (simp_all; done) | (simp_all; omega))) | refine ev_ret rfl ?_)
  · rw [hend (by omega)]; exact hq
  all_goals trace_state
theorem s_PlanForI_L11 (st hv : List TPkg) (hs : st.length ≤ 1000000) (hp0 : PL st) (hs2 : hv.length ≤ 1000000) (hp2 : PL hv) (name : Int) (hn : 1 ≤ name ∧ name ≤ 4) (ht : tames st) (ht2 : tames hv) (hpo : ∀ r : List TPkg, (∀ p, p ∈ r → p ∈ st ∨ p ∈ hv) → PL r) (hd2 : ∀ p, p ∈ st ∨ p ∈ hv → p.deps.length ≤ 2) : ∀ (μ : Nat) (ns : List Int) (i : Nat) (out : List TPkg) (c : Nat), PI st hv name ns i out → i ≤ ns.length → 20 + hv.length - i < μ →
    Ev (fun n => G11_11 (callF prg n) (n + 1) 0 (n + 1 - c) [.sl 4 (st.map ePkg), .sl 4 (hv.map ePkg), .osl 0, .osl 1, iI i] [.arr false 1 (ns.map iI), .arr false 4 (out.map ePkg)]) (QFor st hv name) := by
  intro μ
  induction μ with
  | zero => intro ns i out c _ _ h; omega
  | succ μ ih =>
  intro ns i out c hI hi hμ
  have hle := hI.le
  have hnl := hI.len
  have hpo' : PL out := hpo out fun p hp => (pick_true (hI.outp p hp).1).2
  have hfr : List.drop 0 (List.take i (ns.map iI)) = (ns.take i).map iI := by rw [List.drop_zero, List.map_take]
  have htl : (ns.take i).length ≤ 4000000 := by rw [List.length_take]; omega
  have hvb : 0 ≤ i ∧ i ≤ (ns.map iI).length := by rw [List.length_map]; omega
  have hcon : Ex (fun m => callF prg m 27 [.sl 1 (((ns.map iI).take i).drop 0), .v (.int .i64 (nth ns i))] []) (.v (.bool (decide (nth ns i ∈ ns.take i)))) [] := by
    rw [hfr]; exact s_ContainsInt (ns.take i) (nth ns i) (by omega)
  by_cases hin : i < ns.length
  · by_cases hc : nth ns i ∈ ns.take i
    · have hgo := ih ns (i + 1) out (c + 1) (hI.skip hin hc) (by omega) (by omega)
      simp only [Int.natCast_add, Int.natCast_one] at hgo
      rw [decide_eq_true hc] at hcon
      (refine UG11_11 _ ?_; unfold GB11_11)
      repeat' (first | (rw [Int.toNat_natCast]) | ((with_reducible refine eB ?_); first | ((with_reducible refine ev_lss ?_ ?_) <;> intro h <;> try (exfalso; omega)) | ((with_reducible refine ev_add ?_ ?_); · omega) | refine ev_bd rfl ?_ | refine ev_bd0 rfl ?_) | ((with_reducible refine eL ?_); first | ((with_reducible refine ev_lenm ?_ ?_); · rfl) | refine ev_lenom rfl rfl ?_ | refine ev_lenfm rfl rfl ?_ | refine ev_lenoc rfl rfl rfl ?_ | refine ev_lenc rfl rfl ?_ | refine ev_leno rfl rfl ?_ | refine ev_slen rfl ?_ | refine ev_bd rfl ?_ | refine ev_bd0 rfl ?_) | ((with_reducible refine eI ?_); first | ((with_reducible refine ev_idxn ?_ ?_ ?_); (· rfl); · omega) | (refine ev_idxon rfl rfl ?_ ?_; (· first | omega | (simp only [List.length_cons, List.length_nil, List.length_map, List.length_append]; omega))) | (refine ev_idxfn rfl rfl ?_ ?_; (focus omega)) | ((with_reducible refine ev_idx ?_ ?_ ?_); (· rfl); · omega) | (refine ev_idxo rfl rfl ?_ ?_; (· first | omega | (simp only [List.length_cons, List.length_nil, List.length_map, List.length_append]; omega))) | (refine ev_idxf rfl rfl ?_ ?_; (focus omega)) | refine ev_bd rfl ?_ | refine ev_bd0 rfl ?_) | ((with_reducible refine eS ?_); first | ((with_reducible first | refine ev_slh ?_ ?_ ?_ | refine ev_sll ?_ ?_ ?_); (· rfl); · omega) | ((first | refine ev_slvh rfl rfl ?_ ?_ | refine ev_slvl rfl rfl ?_ ?_); (· first | omega | (simp only [List.length_cons, List.length_nil, List.length_map, List.length_append]; omega))) | refine ev_bd rfl ?_ | refine ev_bd0 rfl ?_) | ((with_reducible refine eC ?_); first | ((refine ev_call_vw hcon rfl rfl rfl hvb ?_))) | ((with_reducible refine eK ?_); first | (with_reducible first | refine ev_ct ?_ | refine ev_cf ?_) | ((with_reducible refine ev_cond ?_ ?_) <;> intro h)) | ((with_reducible refine eO ?_); first | refine ev_bd rfl ?_ | (refine ev_bdB rfl ?_ ?_ <;> intro h <;> try (exfalso; simp_all; done)) | refine ev_bd0 rfl ?_ | (refine ev_ldm rfl ?_ rfl ?_; (focus omega)) | (refine ev_ldmB rfl ?_ rfl ?_ ?_; (focus omega); (all_goals intro h))) | ((with_reducible refine eD ?_); first | refine ev_bd rfl ?_ | refine ev_bd0 rfl ?_) | ((with_reducible refine eH ?_); first | refine ev_gcB rfl ?_) | ((with_reducible refine UJ11_12 ?_); (unfold JB11_12)) | (with_reducible exact hgo) | (with_reducible first | refine UL11_11 ?_ | refine VL11_11 ?_) | refine ev_ret rfl ?_)
    · rw [decide_eq_false hc] at hcon
      have hG : ∀ p, pickP st hv (nth ns i) = (p, true) → ∀ c', Ev (fun n => G11_18 (callF prg n) (n + 1) 0 (n + 1 - c) (n + 1 - c') [.sl 4 (st.map ePkg), .sl 4 (hv.map ePkg), .osl 0, .osl 1, iI i, .ptr 2 0, .sl 2 (p.deps.map eDep), iI p.deps.length, iI 0] [.arr false 1 (ns.map iI), .arr false 4 (out.map ePkg), .box [iI p.name, iI p.ver, .sl 2 (p.files.map eFile), .sl 2 (p.deps.map eDep)]]) (QFor st hv name) := fun p hr c' => by
        have hpm := (pick_true hr).2
        obtain ⟨hput, hnew⟩ := hI.new hin hc hr hn ht ht2 (hd2 p hpm)
        have hpl : p.files.length ≤ 2000000 ∧ p.deps.length ≤ 2000000 := by
          rcases hpm with e | e
          · obtain ⟨k, hk, rfl⟩ := mem_nth e; exact hp0 k
          · obtain ⟨k, hk, rfl⟩ := mem_nth e; exact hp2 k
        have hgo := ih _ (i + 1) _ (c + 1) hnew (by rw [List.length_append]; omega) (by omega)
        simp only [Int.natCast_add, Int.natCast_one] at hgo
        exact s_PlanForI_L18 st hv out p hput hpl.1 hpl.2 ns (by omega) i (by omega) c hgo 0 (Nat.zero_le _) ns 0 c' rfl (by simp)
      (refine UG11_11 _ ?_; unfold GB11_11)
      repeat' (first | (rw [Int.toNat_natCast]) | ((with_reducible refine eB ?_); first | ((with_reducible refine ev_lss ?_ ?_) <;> intro h <;> try (exfalso; omega)) | refine ev_bd rfl ?_ | refine ev_bd0 rfl ?_) | ((with_reducible refine eL ?_); first | ((with_reducible refine ev_lenm ?_ ?_); · rfl) | refine ev_lenom rfl rfl ?_ | refine ev_lenfm rfl rfl ?_ | refine ev_lenoc rfl rfl rfl ?_ | refine ev_lenc rfl rfl ?_ | refine ev_leno rfl rfl ?_ | refine ev_slen rfl ?_ | refine ev_bd rfl ?_ | refine ev_bd0 rfl ?_) | ((with_reducible refine eI ?_); first | ((with_reducible refine ev_idxn ?_ ?_ ?_); (· rfl); · omega) | (refine ev_idxon rfl rfl ?_ ?_; (· first | omega | (simp only [List.length_cons, List.length_nil, List.length_map, List.length_append]; omega))) | (refine ev_idxfn rfl rfl ?_ ?_; (focus omega)) | ((with_reducible refine ev_idx ?_ ?_ ?_); (· rfl); · omega) | (refine ev_idxo rfl rfl ?_ ?_; (· first | omega | (simp only [List.length_cons, List.length_nil, List.length_map, List.length_append]; omega))) | (refine ev_idxf rfl rfl ?_ ?_; (focus omega)) | refine ev_bd rfl ?_ | refine ev_bd0 rfl ?_) | ((with_reducible refine eS ?_); first | ((with_reducible first | refine ev_slh ?_ ?_ ?_ | refine ev_sll ?_ ?_ ?_); (· rfl); · omega) | ((first | refine ev_slvh rfl rfl ?_ ?_ | refine ev_slvl rfl rfl ?_ ?_); (· first | omega | (simp only [List.length_cons, List.length_nil, List.length_map, List.length_append]; omega))) | refine ev_bd rfl ?_ | refine ev_bd0 rfl ?_) | ((with_reducible refine eC ?_); first | ((refine ev_call_vw hcon rfl rfl rfl hvb ?_)) | ((refine ev_callE (s_newer st hv (by omega) (by omega) (nth ns i)) rfl rfl ?_); ((rintro _ _ ⟨p, ⟨hr, rfl, rfl⟩ | ⟨hr, rfl, rfl⟩⟩) <;> (first | (refine ev_post ?_ rfl ?_; (focus first | exact .inl rfl | exact .inr rfl | (refine .inr ?_; simp [flagC, ownF, hasSl3, hasSl1, SO.hasSl, List.all_map, flatSV, SV.cells, Function.comp_def]; done))) | (refine ev_postF ?_ rfl ?_; (focus first | rfl | (simp [flagC, ownF, hasSl3, hasSl1, SO.hasSl, List.all_map, flatSV, SV.cells, Function.comp_def]; done))))))) | ((with_reducible refine eK ?_); first | (with_reducible first | refine ev_ct ?_ | refine ev_cf ?_) | ((with_reducible refine ev_cond ?_ ?_) <;> intro h)) | ((with_reducible refine eO ?_); first | refine ev_bd rfl ?_ | (refine ev_bdB rfl ?_ ?_ <;> intro h <;> try (exfalso; simp_all; done)) | refine ev_bd0 rfl ?_ | (refine ev_ldm rfl ?_ rfl ?_; (focus omega)) | (refine ev_ldmB rfl ?_ rfl ?_ ?_; (focus omega); (all_goals intro h))) | ((with_reducible refine eD ?_); first | refine ev_bd rfl ?_ | refine ev_bd0 rfl ?_) | ((with_reducible refine eH ?_); first | refine ev_gcB rfl ?_) | (with_reducible exact hG p hr _) | (with_reducible first | refine UL11_18 ?_ | refine VL11_18 ?_) | refine ev_ret rfl ?_)
      all_goals first
        | exact ⟨[], false, forP_no (fun hx => by (have h8 := hx.1 _ (hI.rch _ (nth_mem hin)); rw [hr] at h8; cases h8)), rfl, rfl⟩
        | trace_state
  · obtain rfl : i = ns.length := by omega
    obtain ⟨ha, he⟩ := hI.all hn ht ht2
    (refine UG11_11 _ ?_; unfold GB11_11)
    repeat' (first | ((with_reducible refine eB ?_); first | ((with_reducible refine ev_lss ?_ ?_) <;> intro h <;> try (exfalso; omega)) | refine ev_bd rfl ?_ | refine ev_bd0 rfl ?_) | ((with_reducible refine eL ?_); first | ((with_reducible refine ev_lenm ?_ ?_); · rfl) | refine ev_lenom rfl rfl ?_ | refine ev_lenfm rfl rfl ?_ | refine ev_lenoc rfl rfl rfl ?_ | refine ev_lenc rfl rfl ?_ | refine ev_leno rfl rfl ?_ | refine ev_slen rfl ?_ | refine ev_bd rfl ?_ | refine ev_bd0 rfl ?_) | ((with_reducible refine eI ?_); first | ((with_reducible refine ev_idxn ?_ ?_ ?_); (· rfl); · omega) | (refine ev_idxon rfl rfl ?_ ?_; (· first | omega | (simp only [List.length_cons, List.length_nil, List.length_map, List.length_append]; omega))) | (refine ev_idxfn rfl rfl ?_ ?_; (focus omega)) | ((with_reducible refine ev_idx ?_ ?_ ?_); (· rfl); · omega) | (refine ev_idxo rfl rfl ?_ ?_; (· first | omega | (simp only [List.length_cons, List.length_nil, List.length_map, List.length_append]; omega))) | (refine ev_idxf rfl rfl ?_ ?_; (focus omega)) | refine ev_bd rfl ?_ | refine ev_bd0 rfl ?_) | ((with_reducible refine eS ?_); first | ((with_reducible first | refine ev_slh ?_ ?_ ?_ | refine ev_sll ?_ ?_ ?_); (· rfl); · omega) | ((first | refine ev_slvh rfl rfl ?_ ?_ | refine ev_slvl rfl rfl ?_ ?_); (· first | omega | (simp only [List.length_cons, List.length_nil, List.length_map, List.length_append]; omega))) | refine ev_bd rfl ?_ | refine ev_bd0 rfl ?_) | ((with_reducible refine eC ?_); first | ((refine ev_callB (s_PlanOkI out (by omega) hpo') rfl rfl ?_ rfl rfl ?_ ?_); (focus first | exact .inl rfl | exact .inr rfl | (refine .inr ?_; simp [flagC, ownF, hasSl3, hasSl1, SO.hasSl, List.all_map, flatSV, SV.cells, Function.comp_def]; done)); (all_goals (intro h)); (all_goals (try (exfalso; simp_all; done))))) | ((with_reducible refine eK ?_); first | (with_reducible first | refine ev_ct ?_ | refine ev_cf ?_) | ((with_reducible refine ev_cond ?_ ?_) <;> intro h)) | ((with_reducible refine eO ?_); first | refine ev_bd rfl ?_ | (refine ev_bdB rfl ?_ ?_ <;> intro h <;> try (exfalso; simp_all; done)) | refine ev_bd0 rfl ?_ | (refine ev_ldm rfl ?_ rfl ?_; (focus omega)) | (refine ev_ldmB rfl ?_ rfl ?_ ?_; (focus omega); (all_goals intro h))) | ((with_reducible refine eD ?_); first | refine ev_bd rfl ?_ | refine ev_bd0 rfl ?_) | refine ev_ret rfl ?_)
    · exact ⟨_, _, forP_yes ha (by rw [← he]; assumption), rfl, by rw [he]⟩
    · exact ⟨[], false, forP_no (fun hx => by (have h8 := hx.2; rw [← he] at h8; simp_all)), rfl, rfl⟩
theorem s_PlanForI_L5 (st hv : List TPkg) (hs2 : hv.length ≤ 1000000) (name : Int) {Q : SV → List SO → Prop}
    (hq : ∀ c, Ev (fun n => G11_11 (callF prg n) (n + 1) 0 (n + 1 - c) [.sl 4 (st.map ePkg), .sl 4 (hv.map ePkg), .osl 0, .osl 1, iI 0] [.arr false 1 ((name :: hv.map (·.name)).map iI), .arr false 4 []]) Q) : ∀ i : Nat, i ≤ hv.length → ∀ (ns : List Int) (k : Int) (c : Nat), k = i → ns = name :: (hv.take i).map (·.name) →
    Ev (fun n => G11_5 (callF prg n) (n + 1) 0 (n + 1 - c) [.sl 4 (st.map ePkg), .sl 4 (hv.map ePkg), .osl 0, .sl 4 (hv.map ePkg), iI hv.length, iI k] [.arr false 1 (ns.map iI)]) Q := by
  refine up_ind ?_
  intro i hi ih ns k c hk hns
  subst hk
  have hl : ns.length ≤ 1000001 := by rw [hns]; simp only [List.length_cons, List.length_map, List.length_take]; omega
  have hend : ¬ i < hv.length → ns = name :: hv.map (·.name) := fun h => by rw [hns, List.take_of_length_le (by omega)]
  have hnx : i < hv.length → ns ++ [(nth hv i).name] = name :: (hv.take (i + 1)).map (·.name) := fun h => by rw [hns, take_nth h]; simp
  (refine UG11_5 _ ?_; unfold GB11_5)
  repeat' (first | (rw [map_app1]) | ((with_reducible refine eB ?_); first | ((with_reducible refine ev_lss ?_ ?_) <;> intro h <;> try (exfalso; omega)) | ((with_reducible refine ev_add ?_ ?_); · omega) | refine ev_bd rfl ?_ | refine ev_bd0 rfl ?_) | ((with_reducible refine eI ?_); first | ((with_reducible refine ev_idxn ?_ ?_ ?_); (· rfl); · omega) | (refine ev_idxon rfl rfl ?_ ?_; (· first | omega | (simp only [List.length_cons, List.length_nil, List.length_map, List.length_append]; omega))) | (refine ev_idxfn rfl rfl ?_ ?_; (focus omega)) | ((with_reducible refine ev_idx ?_ ?_ ?_); (· rfl); · omega) | (refine ev_idxo rfl rfl ?_ ?_; (· first | omega | (simp only [List.length_cons, List.length_nil, List.length_map, List.length_append]; omega))) | (refine ev_idxf rfl rfl ?_ ?_; (focus omega)) | refine ev_bd rfl ?_ | refine ev_bd0 rfl ?_) | ((with_reducible refine eA ?_); first | (refine ev_app rfl rfl rfl rfl rfl ?_ ?_; · first | decide | (simp only [List.length_append, List.length_cons, List.length_nil, List.length_map, List.length_take, List.length_drop]; omega))) | ((with_reducible refine eK ?_); first | (with_reducible first | refine ev_ct ?_ | refine ev_cf ?_) | ((with_reducible refine ev_cond ?_ ?_) <;> intro h)) | ((with_reducible refine eO ?_); first | refine ev_bd rfl ?_ | (refine ev_bdB rfl ?_ ?_ <;> intro h <;> try (exfalso; simp_all; done)) | refine ev_bd0 rfl ?_ | (refine ev_ldm rfl ?_ rfl ?_; (focus omega)) | (refine ev_ldmB rfl ?_ rfl ?_ ?_; (focus omega); (all_goals intro h)) | (refine ev_ldz rfl rfl rfl ?_ ?_ ?_; (· simp); (· first | omega | (simp only [List.length_cons, List.length_nil, List.length_map, List.length_append]; omega)); intro w)) | ((with_reducible refine eD ?_); first | refine ev_bd rfl ?_ | refine ev_bd0 rfl ?_) | ((with_reducible refine eH ?_); first | refine ev_gcB rfl ?_) | ((with_reducible refine ih ?_ (ns ++ [(nth hv i).name]) _ _ ?_ (hnx ?_)) <;> (first | omega | assumption | (simp only [*, List.map_append, List.length_append, List.length_cons, List.length_nil, List.map_cons, List.map_nil]; done) | (simp_all; done) | (simp_all; omega))) | (with_reducible first | refine UL11_5 ?_ | refine VL11_5 ?_) | (with_reducible first | refine UL11_11 ?_ | refine VL11_11 ?_) | refine ev_ret rfl ?_)
  · rw [hend (by omega)]; exact hq _
  all_goals trace_state
theorem tames_of {s : List TPkg} (h : ∀ p, p ∈ s → pkgOk p = true) : tames s := fun p hp => by
  obtain ⟨h1, -, -, -⟩ := pkgOk_iff.1 (h p hp)
  refine ⟨h1, fun d hd => ?_⟩
  obtain ⟨i, hi, rfl⟩ := mem_nth hd
  have := (pkg_deps (h p hp)).2 i hi
  unfold depAt at this; omega
theorem store_pkgs {s : List TPkg} (h : storeOk s = true) : ∀ p, p ∈ s → pkgOk p = true := fun p hp => by
  obtain ⟨i, hi, rfl⟩ := mem_nth hp
  exact (storeOk_iff.1 h i hi).1
theorem plan_pkgs {s : List TPkg} (h : planOk s = true) : ∀ p, p ∈ s → pkgOk p = true := store_pkgs (planOk_iff.1 h).1
def forOk (st hv : List TPkg) (name : Int) : Prop := storeOk st = true ∧ planOk hv = true ∧ 1 ≤ name ∧ name ≤ 4
open Classical in
noncomputable def planFor (st hv : List TPkg) (name : Int) : List TPkg × Bool := if forOk st hv name then forP st hv name else ([], false)
theorem planFor_yes {st hv : List TPkg} {name : Int} (h : forOk st hv name) : planFor st hv name = forP st hv name := by unfold planFor; rw [if_pos h]
theorem planFor_no {st hv : List TPkg} {name : Int} (h : ¬ forOk st hv name) : planFor st hv name = ([], false) := by unfold planFor; rw [if_neg h]
def QPlanFor (st hv : List TPkg) (name : Int) : SV → List SO → Prop := fun x os => ∃ r ok, planFor st hv name = (r, ok) ∧ x = .tup [.osl 0, bB ok] ∧ os = [.arr false 4 (r.map ePkg)]
theorem QFor.plan {st hv : List TPkg} {name : Int} (h : forOk st hv name) : ∀ x os, QFor st hv name x os → QPlanFor st hv name x os := fun x os ⟨r, ok, h1, h2, h3⟩ => ⟨r, ok, by rw [planFor_yes h]; exact h1, h2, h3⟩
theorem ev_monoP {X : Nat → Out} {Q Q' : SV → List SO → Prop} (h : Ev X Q) (hq : ∀ x os, Q x os → Q' x os) : Ev X Q' := by
  obtain ⟨x, os, h1, h2⟩ := h
  exact ⟨x, os, hq _ _ h1, h2⟩
theorem s_PlanForI (st hv : List TPkg) (hs : st.length ≤ 1000000) (hp0 : PL st) (hs2 : hv.length ≤ 1000000) (hp2 : PL hv) (name : Int) : Ev (fun n => callF prg n 11 [.sl 4 (st.map ePkg), .sl 4 (hv.map ePkg), iI name] []) (QPlanFor st hv name) := by
  have hno : ∀ h : ¬ forOk st hv name, QPlanFor st hv name (.tup [.osl 0, bB false]) [.arr false 4 []] := fun h => ⟨[], false, planFor_no h, rfl, rfl⟩
  have hpo : ∀ r : List TPkg, (∀ p, p ∈ r → p ∈ st ∨ p ∈ hv) → PL r := fun r h i => by
    by_cases hi : i < r.length
    · rcases h _ (nth_mem hi) with e | e
      · obtain ⟨k, hk, e2⟩ := mem_nth e; rw [← e2]; exact hp0 k
      · obtain ⟨k, hk, e2⟩ := mem_nth e; rw [← e2]; exact hp2 k
    · have : nth r i = default := by
        unfold nth
        rw [List.getD_eq_getElem?_getD, List.getElem?_eq_none (by omega)]; rfl
      rw [this]
      exact ⟨by show ([] : List TFile).length ≤ _; simp, by show ([] : List TDep).length ≤ _; simp⟩
  have hG : storeOk st = true → planOk hv = true → 1 ≤ name ∧ name ≤ 4 → ∀ c', Ev (fun n => G11_5 (callF prg n) (n + 1) 0 (n + 1 - c') [.sl 4 (st.map ePkg), .sl 4 (hv.map ePkg), .osl 0, .sl 4 (hv.map ePkg), iI hv.length, iI 0] [.arr false 1 [iI name]]) (QPlanFor st hv name) := fun a b hn c' => by
    have ht := tames_of (store_pkgs a)
    have ht2 := tames_of (plan_pkgs b)
    have hd2 : ∀ p, p ∈ st ∨ p ∈ hv → p.deps.length ≤ 2 := fun p hp => by
      rcases hp with e | e
      · exact (pkg_deps (store_pkgs a p e)).1
      · exact (pkg_deps (plan_pkgs b p e)).1
    have hPI : PI st hv name (name :: hv.map (·.name)) 0 [] := by
      refine ⟨fun x hx => ?_, List.mem_cons_self .., fun p hp => List.mem_cons_of_mem _ (List.mem_map.2 ⟨p, hp, rfl⟩), fun p hp => ?_, fun j hj => absurd hj (Nat.not_lt_zero _), fun p hp => ?_, List.Pairwise.nil, by simp; omega⟩
      · rcases List.mem_cons.1 hx with rfl | hx
        · exact .this
        · obtain ⟨p, hp, rfl⟩ := List.mem_map.1 hx
          exact .was hp
      · cases hp
      · cases hp
    refine ev_monoP ?_ (QFor.plan ⟨a, b, hn.1, hn.2⟩)
    exact s_PlanForI_L5 st hv hs2 name (fun c => s_PlanForI_L11 st hv hs hp0 hs2 hp2 name hn ht ht2 hpo hd2 (21 + hv.length) _ 0 [] c hPI (Nat.zero_le _) (by omega)) 0 (Nat.zero_le _) [name] 0 c' rfl rfl
  (refine U11 (nl := 0) rfl ?_; unfold B11)
  repeat' (first | ((with_reducible refine eG ?_); first | (with_reducible first | refine ev_gtt ?_ | refine ev_gff ?_ | refine ev_gtf ?_ | refine ev_gft ?_ | refine ev_gu ?_) | refine ev_bd rfl ?_ | refine ev_bd0 rfl ?_ | ((with_reducible refine ev_gB ?_ ?_) <;> intro h)) | ((with_reducible refine eL ?_); first | ((with_reducible refine ev_lenm ?_ ?_); · rfl) | refine ev_lenom rfl rfl ?_ | refine ev_lenfm rfl rfl ?_ | refine ev_lenoc rfl rfl rfl ?_ | refine ev_lenc rfl rfl ?_ | refine ev_leno rfl rfl ?_ | refine ev_slen rfl ?_ | refine ev_bd rfl ?_ | refine ev_bd0 rfl ?_) | ((with_reducible refine eC ?_); first | ((refine ev_callB (s_StoreOkI st (by omega) hp0) rfl rfl ?_ rfl rfl ?_ ?_); (focus first | exact .inl rfl | exact .inr rfl | (refine .inr ?_; simp [flagC, ownF, hasSl3, hasSl1, SO.hasSl, List.all_map, flatSV, SV.cells, Function.comp_def]; done)); (all_goals (intro h)); (all_goals (try (exfalso; simp_all; done)))) | ((refine ev_callB (s_PlanOkI hv (by omega) hp2) rfl rfl ?_ rfl rfl ?_ ?_); (focus first | exact .inl rfl | exact .inr rfl | (refine .inr ?_; simp [flagC, ownF, hasSl3, hasSl1, SO.hasSl, List.all_map, flatSV, SV.cells, Function.comp_def]; done)); (all_goals (intro h)); (all_goals (try (exfalso; simp_all; done)))) | ((refine ev_callD (s_isName ..) rfl rfl ?_ rfl rfl ?_ ?_); (focus first | exact .inl rfl | exact .inr rfl | (refine .inr ?_; simp [flagC, ownF, hasSl3, hasSl1, SO.hasSl, List.all_map, flatSV, SV.cells, Function.comp_def]; done)); (all_goals (intro h)); (all_goals (try (exfalso; first | omega | exact h rfl | exact h ⟨rfl, rfl, rfl⟩))))) | ((with_reducible refine eK ?_); first | (with_reducible first | refine ev_ct ?_ | refine ev_cf ?_) | ((with_reducible refine ev_cond ?_ ?_) <;> intro h)) | ((with_reducible refine eD ?_); first | refine ev_bd rfl ?_ | refine ev_bd0 rfl ?_ | ((with_reducible refine ev_pickB ?_ ?_) <;> intro h)) | ((with_reducible refine eH ?_); first | refine ev_gcB rfl ?_) | (with_reducible exact hG (by assumption) (by assumption) (by assumption) _) | (with_reducible first | refine UL11_5 ?_ | refine VL11_5 ?_) | refine ev_ret rfl ?_)
  all_goals first
    | (refine hno ?_; rintro ⟨a, b, c⟩; simp_all; done)
    | (refine hno ?_; rintro ⟨a, b, c⟩; simp_all; omega)
    | trace_state
theorem s_PlanForS (st hv : List TPkg) (hs : st.length ≤ 1000000) (hp0 : PL st) (hs2 : hv.length ≤ 1000000) (hp2 : PL hv) (name : Int) : Ev (fun n => callF prg n 10 [.sl 4 (st.map ePkg), .sl 4 (hv.map ePkg), iI name] []) (QPlanFor st hv name) := by
  have hno : ∀ h : ¬ forOk st hv name, QPlanFor st hv name (.tup [.osl 0, bB false]) [.arr false 4 []] := fun h => ⟨[], false, planFor_no h, rfl, rfl⟩
  have hF : storeOk st = true → planOk hv = true → 1 ≤ name ∧ name ≤ 4 → Ev (fun n => callF prg n 24 [.sl 4 (st.map ePkg), .sl 4 (hv.map ePkg), iI name] []) (QPlanFor st hv name) := fun a b hn =>
    ev_monoP (s_l13For st hv (by omega) hp0 (by omega) hp2 name hn (tames_of (store_pkgs a)) (tames_of (plan_pkgs b))) (QFor.plan ⟨a, b, hn.1, hn.2⟩)
  (refine U10 (nl := 0) rfl ?_; unfold B10)
  repeat' (first | ((with_reducible refine eG ?_); first | (with_reducible first | refine ev_gtt ?_ | refine ev_gff ?_ | refine ev_gtf ?_ | refine ev_gft ?_ | refine ev_gu ?_) | refine ev_bd rfl ?_ | refine ev_bd0 rfl ?_ | ((with_reducible refine ev_gB ?_ ?_) <;> intro h)) | ((with_reducible refine eC ?_); first | ((refine ev_callB (s_StoreOkS st (by omega) hp0) rfl rfl ?_ rfl rfl ?_ ?_); (focus first | exact .inl rfl | exact .inr rfl | (refine .inr ?_; simp [flagC, ownF, hasSl3, hasSl1, SO.hasSl, List.all_map, flatSV, SV.cells, Function.comp_def]; done)); (all_goals (intro h)); (all_goals (try (exfalso; simp_all; done)))) | ((refine ev_callB (s_PlanOkS hv (by omega) hp2) rfl rfl ?_ rfl rfl ?_ ?_); (focus first | exact .inl rfl | exact .inr rfl | (refine .inr ?_; simp [flagC, ownF, hasSl3, hasSl1, SO.hasSl, List.all_map, flatSV, SV.cells, Function.comp_def]; done)); (all_goals (intro h)); (all_goals (try (exfalso; simp_all; done)))) | ((refine ev_callD (s_l6In ..) rfl rfl ?_ rfl rfl ?_ ?_); (focus first | exact .inl rfl | exact .inr rfl | (refine .inr ?_; simp [flagC, ownF, hasSl3, hasSl1, SO.hasSl, List.all_map, flatSV, SV.cells, Function.comp_def]; done)); (all_goals (intro h)); (all_goals (try (exfalso; first | omega | exact h rfl | exact h ⟨rfl, rfl, rfl⟩)))) | ((refine ev_callE (hF (by assumption) (by assumption) (by assumption)) rfl rfl ?_); ((rintro _ _ ⟨r, ok, h9, rfl, rfl⟩) <;> (first | (refine ev_post ?_ rfl ?_; (focus first | exact .inl rfl | exact .inr rfl | (refine .inr ?_; simp [flagC, ownF, hasSl3, hasSl1, SO.hasSl, List.all_map, flatSV, SV.cells, Function.comp_def]; done))) | (refine ev_postF ?_ rfl ?_; (focus first | rfl | (simp [flagC, ownF, hasSl3, hasSl1, SO.hasSl, List.all_map, flatSV, SV.cells, Function.comp_def]; done))))))) | ((with_reducible refine eK ?_); first | (with_reducible first | refine ev_ct ?_ | refine ev_cf ?_) | ((with_reducible refine ev_cond ?_ ?_) <;> intro h)) | ((with_reducible refine eD ?_); first | refine ev_bd rfl ?_ | refine ev_bd0 rfl ?_ | ((with_reducible refine ev_pickB ?_ ?_) <;> intro h)) | refine ev_ret rfl ?_)
  all_goals first
    | exact ⟨r, ok, h9, rfl, rfl⟩
    | (refine hno ?_; rintro ⟨a, b, c⟩; simp_all; done)
    | (refine hno ?_; rintro ⟨a, b, c⟩; simp_all; omega)
    | trace_state
end Go.Proofs.Ytlnenahbffkbiaa

/- Drawn wishes. -/
namespace Go.Proofs.Ytlnenahbffkbiaa
open Go
set_option linter.unusedVariables false
set_option linter.unusedSimpArgs false
set_option maxHeartbeats 4000000
theorem forP_plan {st hv : List TPkg} {name : Int} {r : List TPkg} {ok : Bool} (h : forP st hv name = (r, ok)) : planOk r = true := by
  unfold forP at h
  split at h
  · rename_i h1; cases h; exact h1.2
  · cases h; rfl
def QPlanD (b : List Int) (p : Int) : SV → List SO → Prop := fun x os => ∃ (s : List TPkg) (q : Int), os = [rd b q] ∧ x = .sl 4 (s.map ePkg) ∧ s.length ≤ 4 ∧ smalls s ∧ p ≤ q ∧ q ≤ p + 10 ∧ tames s ∧ planOk s = true
theorem s_l71PlanD_L {b : List Int} (hb : RdOK b) {p0 : Int} (hp0 : 0 ≤ p0 ∧ p0 < 500000000) (st : List TPkg) (hs : st.length ≤ 20) (hsm : smalls st) (ht : tames st) : ∀ i : Nat, i ≤ 2 → ∀ (p k : Int) (hv : List TPkg) (o : SO) (c : Nat), k ≤ 2 - i → Arr4 hv o → hv.length ≤ 4 → smalls hv → tames hv → planOk hv = true → p0 ≤ p → p ≤ p0 + 1 + i →
    Ev (fun n => G19_3 (callF prg n) (n + 1) 1 (n + 1 - c) [.ptr 0 0, .sl 4 (st.map ePkg), .osl 1, iI k] [rd b p, o]) (QPlanD b p0) := by
  refine up_ind ?_
  intro i hi ih p k hv o c hk ho hl hsh hth hpv h1 h2
  have hfor := fun (z : Int) hz => s_l13For st hv (by omega) (PL_small hsm) (by omega) (PL_small hsh) z hz ht hth
  rcases ho with rfl | rfl
  all_goals (refine UG19_3 _ ?_; unfold GB19_3)
  all_goals repeat' (first | ((with_reducible refine eB ?_); first | ((with_reducible refine ev_gtr ?_ ?_) <;> intro h <;> try (exfalso; omega)) | ((with_reducible first | refine ev_add ?_ ?_ | refine ev_sub ?_ ?_); · omega) | refine ev_bd rfl ?_ | refine ev_bd0 rfl ?_) | ((with_reducible refine eC ?_); first | ((refine ev_callN (s_pick hb (by omega) _ (by omega)) rfl rfl ?_ (fun _ => rfl) ?_); (· first | exact .inl rfl | exact .inr (fun _ => rfl)); (first | (have q0 := z3; clear q0; intro z4 hz4) | (have q0 := z2; clear q0; intro z3 hz3) | (have q0 := z; clear q0; intro z2 hz2) | (intro z hz))) | ((refine ev_callE (hfor _ (by omega)) rfl rfl ?_); ((rintro _ _ ⟨r, ok, hr, rfl, rfl⟩) <;> (((have hrl := (forP_mem hr).1); (have hrs := forP_small hr hsm hsh); (have hrt := forP_tame hr ht hth); (have hrp := forP_plan hr); (rcases ok with _ | _))) <;> (first | (refine ev_post ?_ rfl ?_; (focus first | exact .inl rfl | exact .inr rfl | (refine .inr ?_; simp [flagC, ownF, hasSl3, hasSl1, SO.hasSl, List.all_map, flatSV, SV.cells, Function.comp_def]; done))) | (refine ev_postF ?_ rfl ?_; (focus first | rfl | (simp [flagC, ownF, hasSl3, hasSl1, SO.hasSl, List.all_map, flatSV, SV.cells, Function.comp_def]; done))))))) | ((with_reducible refine eK ?_); first | (with_reducible first | refine ev_ct ?_ | refine ev_cf ?_) | ((with_reducible refine ev_cond ?_ ?_) <;> intro h)) | ((with_reducible refine eD ?_); first | refine ev_bd rfl ?_ | refine ev_bd0 rfl ?_) | ((with_reducible refine eH ?_); first | refine ev_gcB rfl ?_) | ((with_reducible refine UJ19_4 ?_); (unfold JB19_4)) | (with_reducible first | refine UL19_3 ?_ | refine VL19_3 ?_) | ((with_reducible refine ih ?_ _ _ r _ _ ?_ ?_ ?_ hrs hrt hrp ?_ ?_) <;> (first | omega | assumption | ((exact .inl rfl)) | (simp only [*, List.map_append, List.length_append, List.length_cons, List.length_nil, List.map_cons, List.map_nil]; done) | (simp_all; done) | (simp_all; omega))) | ((with_reducible refine ih ?_ _ _ hv _ _ ?_ ?_ ?_ hsh hth hpv ?_ ?_) <;> (first | omega | assumption | ((first | exact .inl rfl | exact .inr rfl)) | (simp only [*, List.map_append, List.length_append, List.length_cons, List.length_nil, List.map_cons, List.map_nil]; done) | (simp_all; done) | (simp_all; omega))) | refine ev_ret rfl ?_)
  all_goals first
    | exact ⟨hv, _, rfl, rfl, hl, hsh, by omega, by omega, hth, hpv⟩
    | trace_state
theorem s_l71PlanD {b : List Int} (hb : RdOK b) {p : Int} (hp : 0 ≤ p ∧ p < 500000000) (st : List TPkg) (hs : st.length ≤ 20) (hsm : smalls st) (ht : tames st) : Ev (fun n => callF prg n 19 [.ptr 0 0, .sl 4 (st.map ePkg)] [rd b p]) (QPlanD b p) := by
  (refine U19 (nl := 1) rfl ?_; unfold B19)
  repeat' (first | ((with_reducible refine eC ?_); first | ((refine ev_callN (s_pick hb (by omega) _ (by omega)) rfl rfl ?_ (fun _ => rfl) ?_); (· first | exact .inl rfl | exact .inr (fun _ => rfl)); (first | (have q0 := z3; clear q0; intro z4 hz4) | (have q0 := z2; clear q0; intro z3 hz3) | (have q0 := z; clear q0; intro z2 hz2) | (intro z hz)))) | ((with_reducible refine eD ?_); first | refine ev_bd rfl ?_ | refine ev_bd0 rfl ?_) | ((with_reducible refine eH ?_); first | refine ev_gcB rfl ?_) | (with_reducible first | refine UL19_3 ?_ | refine VL19_3 ?_) | ((with_reducible refine s_l71PlanD_L hb hp st hs hsm ht 0 ?_ _ _ [] _ _ ?_ ?_ ?_ smalls_nil tames_nil rfl ?_ ?_) <;> (first | omega | assumption | ((first | exact .inl rfl | exact Nat.zero_le _)) | (simp only [*, List.map_append, List.length_append, List.length_cons, List.length_nil, List.map_cons, List.map_nil]; done) | (simp_all; done) | (simp_all; omega))) | refine ev_ret rfl ?_)
def QDrawFor : SV → List SO → Prop := fun x os => ∃ (st hv : List TPkg) (name : Int), x = .tup [.sl 4 (st.map ePkg), .sl 4 (hv.map ePkg), iI name] ∧ os = [] ∧ st.length ≤ 9 ∧ smalls st ∧ hv.length ≤ 4 ∧ smalls hv ∧ planOk hv = true ∧ 1 ≤ name ∧ name ≤ 8
theorem arr4_frz {s : List TPkg} : Arr4 s (.frz 4 (s.map ePkg)) := by first | exact .inr rfl | exact .inl rfl
theorem arr4_arr {s : List TPkg} : Arr4 s (.arr false 4 (s.map ePkg)) := by first | exact .inr rfl | exact .inl rfl
theorem s_DrawPlanFor_L {b : List Int} (hb : RdOK b) : ∀ i : Nat, i ≤ 6 → ∀ (p k : Int) (st hv : List TPkg) (name : Int) (o : SO) (c : Nat), k = i → Arr4 st o → st.length ≤ 9 → smalls st → hv.length ≤ 4 → smalls hv → planOk hv = true → 1 ≤ name → name ≤ 4 → 0 ≤ p → p ≤ 1000 + 1000 * i →
    Ev (fun n => G9_6 (callF prg n) (n + 1) 0 (n + 1 - c) [.ptr 0 0, .osl 1, .sl 4 (hv.map ePkg), iI name, iI k] [rd b p, o]) QDrawFor := by
  refine up_ind ?_
  intro i hi ih p k st hv name o c hk ho hl hsm hl2 hsm2 hpl hn1 hn2 h1 h2
  subst hk
  rcases ho with rfl | rfl
  all_goals (refine UG9_6 _ ?_; unfold GB9_6)
  all_goals repeat' (first | ((with_reducible refine eG ?_); first | (with_reducible first | refine ev_gtt ?_ | refine ev_gff ?_ | refine ev_gtf ?_ | refine ev_gft ?_ | refine ev_gu ?_) | refine ev_bd rfl ?_ | refine ev_bd0 rfl ?_ | ((with_reducible refine ev_gB ?_ ?_) <;> intro h)) | ((with_reducible refine eB ?_); first | ((with_reducible first | refine ev_lss ?_ ?_ | refine ev_gtr ?_ ?_ | refine ev_eql ?_ ?_) <;> intro h <;> try (exfalso; omega)) | ((with_reducible first | refine ev_add ?_ ?_ | refine ev_mul ?_ ?_); · omega) | ((with_reducible refine ev_quo ?_ ?_ ?_); (· omega); (· omega); intro x hx hx0 hx1) | refine ev_bd rfl ?_ | refine ev_bd0 rfl ?_) | ((with_reducible refine eC ?_); first | ((refine ev_callN (s_pick hb (by omega) _ (by omega)) rfl rfl ?_ (fun _ => rfl) ?_); (· first | exact .inl rfl | exact .inr (fun _ => rfl)); (first | (have q0 := z3; clear q0; intro z4 hz4) | (have q0 := z2; clear q0; intro z3 hz3) | (have q0 := z; clear q0; intro z2 hz2) | (intro z hz))) | ((refine ev_callE (s_PlanForS st hv (by omega) (PL_small hsm) (by omega) (PL_small hsm2) name) rfl rfl ?_); ((rintro _ _ ⟨r, ok, hr, rfl, rfl⟩) <;> ((rcases ok with _ | _)) <;> (first | (refine ev_post ?_ rfl ?_; (focus first | exact .inl rfl | exact .inr rfl | (refine .inr ?_; simp [flagC, ownF, hasSl3, hasSl1, SO.hasSl, List.all_map, flatSV, SV.cells, Function.comp_def]; done))) | (refine ev_postF ?_ rfl ?_; (focus first | rfl | (simp [flagC, ownF, hasSl3, hasSl1, SO.hasSl, List.all_map, flatSV, SV.cells, Function.comp_def]; done)))))) | ((refine ev_callE (s_l71Pkgs hb (by omega)) rfl rfl ?_); ((rintro _ _ ⟨s2, q2, rfl, rfl, hs2, hsm3, hq3, hq4, hst2⟩) <;> (first | (refine ev_post ?_ rfl ?_; (focus first | exact .inl rfl | exact .inr rfl | (refine .inr ?_; simp [flagC, ownF, hasSl3, hasSl1, SO.hasSl, List.all_map, flatSV, SV.cells, Function.comp_def]; done))) | (refine ev_postF ?_ rfl ?_; (focus first | rfl | (simp [flagC, ownF, hasSl3, hasSl1, SO.hasSl, List.all_map, flatSV, SV.cells, Function.comp_def]; done)))))) | ((refine ev_callE (s_l71PlanD hb (by omega) s2 (by omega) hsm3 hst2) rfl rfl ?_); ((rintro _ _ ⟨r2, q', rfl, rfl, hrl, hrs, hq5, hq6, hrt, hrp⟩) <;> (first | (refine ev_post ?_ rfl ?_; (focus first | exact .inl rfl | exact .inr rfl | (refine .inr ?_; simp [flagC, ownF, hasSl3, hasSl1, SO.hasSl, List.all_map, flatSV, SV.cells, Function.comp_def]; done))) | (refine ev_postF ?_ rfl ?_; (focus first | rfl | (simp [flagC, ownF, hasSl3, hasSl1, SO.hasSl, List.all_map, flatSV, SV.cells, Function.comp_def]; done))))))) | ((with_reducible refine eK ?_); first | (with_reducible first | refine ev_ct ?_ | refine ev_cf ?_) | ((with_reducible refine ev_cond ?_ ?_) <;> intro h)) | ((with_reducible refine eD ?_); first | refine ev_bd rfl ?_ | refine ev_bd0 rfl ?_ | ((with_reducible refine ev_pickB ?_ ?_) <;> intro h)) | ((with_reducible refine eH ?_); first | refine ev_gcB rfl ?_) | ((with_reducible refine UJ9_7 ?_); (unfold JB9_7)) | (with_reducible first | refine UL9_6 ?_ | refine VL9_6 ?_) | ((with_reducible refine ih ?_ _ _ s2 r2 _ _ _ ?_ arr4_frz ?_ hsm3 ?_ hrs hrp ?_ ?_ ?_ ?_) <;> (first | omega | assumption | (simp only [*, List.map_append, List.length_append, List.length_cons, List.length_nil, List.map_cons, List.map_nil]; done) | (simp_all; done) | (simp_all; omega))) | ((with_reducible refine ih ?_ _ _ st hv _ _ _ ?_ arr4_frz hl hsm hl2 hsm2 hpl ?_ ?_ ?_ ?_) <;> (first | omega | assumption | (simp only [*, List.map_append, List.length_append, List.length_cons, List.length_nil, List.map_cons, List.map_nil]; done) | (simp_all; done) | (simp_all; omega))) | refine ev_ret rfl ?_)
  all_goals first
    | exact ⟨st, hv, _, rfl, rfl, hl, hsm, hl2, hsm2, hpl, by omega, by omega⟩
    | trace_state
theorem s_DrawPlanFor (l : List Int) (hl : ∀ i, 0 ≤ nth l i ∧ nth l i < 256) : Ev (fun m => callF prg m 9 [.sl 1 (l.map bI)] []) QDrawFor := by
  obtain ⟨b, hb, hopen⟩ := s_l6Open l hl
  (refine U9 (nl := 0) rfl ?_; unfold B9)
  repeat' (first | ((with_reducible refine eB ?_); first | ((with_reducible refine ev_add ?_ ?_); · omega) | refine ev_bd rfl ?_ | refine ev_bd0 rfl ?_) | ((with_reducible refine eC ?_); first | ((refine ev_call (hopen ..) rfl rfl ?_ rfl ?_); (focus first | exact .inl rfl | exact .inr rfl | (refine .inr ?_; simp [flagC, ownF, hasSl3, hasSl1, SO.hasSl, List.all_map, flatSV, SV.cells, Function.comp_def]; done))) | ((refine ev_callN (s_pick hb (by omega) _ (by omega)) rfl rfl ?_ (fun _ => rfl) ?_); (· first | exact .inl rfl | exact .inr (fun _ => rfl)); (first | (have q0 := z3; clear q0; intro z4 hz4) | (have q0 := z2; clear q0; intro z3 hz3) | (have q0 := z; clear q0; intro z2 hz2) | (intro z hz))) | ((refine ev_callE (s_l71Off hb (by omega)) rfl rfl ?_); ((rintro _ _ ⟨s, q, rfl, rfl, hs, hsm, hq1, hq2⟩) <;> (first | (refine ev_post ?_ rfl ?_; (focus first | exact .inl rfl | exact .inr rfl | (refine .inr ?_; simp [flagC, ownF, hasSl3, hasSl1, SO.hasSl, List.all_map, flatSV, SV.cells, Function.comp_def]; done))) | (refine ev_postF ?_ rfl ?_; (focus first | rfl | (simp [flagC, ownF, hasSl3, hasSl1, SO.hasSl, List.all_map, flatSV, SV.cells, Function.comp_def]; done)))))) | ((refine ev_callE (s_l71Pkgs hb (by omega)) rfl rfl ?_); ((rintro _ _ ⟨s2, q2, rfl, rfl, hs2, hsm3, hq3, hq4, hst2⟩) <;> (first | (refine ev_post ?_ rfl ?_; (focus first | exact .inl rfl | exact .inr rfl | (refine .inr ?_; simp [flagC, ownF, hasSl3, hasSl1, SO.hasSl, List.all_map, flatSV, SV.cells, Function.comp_def]; done))) | (refine ev_postF ?_ rfl ?_; (focus first | rfl | (simp [flagC, ownF, hasSl3, hasSl1, SO.hasSl, List.all_map, flatSV, SV.cells, Function.comp_def]; done)))))) | ((refine ev_callE (s_l71PlanD hb (by omega) s2 (by omega) hsm3 hst2) rfl rfl ?_); ((rintro _ _ ⟨r2, q', rfl, rfl, hrl, hrs, hq5, hq6, hrt, hrp⟩) <;> (first | (refine ev_post ?_ rfl ?_; (focus first | exact .inl rfl | exact .inr rfl | (refine .inr ?_; simp [flagC, ownF, hasSl3, hasSl1, SO.hasSl, List.all_map, flatSV, SV.cells, Function.comp_def]; done))) | (refine ev_postF ?_ rfl ?_; (focus first | rfl | (simp [flagC, ownF, hasSl3, hasSl1, SO.hasSl, List.all_map, flatSV, SV.cells, Function.comp_def]; done))))))) | ((with_reducible refine eD ?_); first | refine ev_bd rfl ?_ | refine ev_bd0 rfl ?_) | ((with_reducible refine eH ?_); first | refine ev_gcB rfl ?_) | (with_reducible first | refine UL9_6 ?_ | refine VL9_6 ?_) | ((with_reducible refine s_DrawPlanFor_L hb 0 ?_ _ _ s r2 _ _ _ ?_ arr4_arr ?_ hsm ?_ hrs hrp ?_ ?_ ?_ ?_) <;> (first | omega | assumption | (simp only [*, List.map_append, List.length_append, List.length_cons, List.length_nil, List.map_cons, List.map_nil]; done) | (simp_all; done) | (simp_all; omega))) | refine ev_ret rfl ?_)
  all_goals trace_state
end Go.Proofs.Ytlnenahbffkbiaa

/- What is told of what is to be in. -/
namespace Go.Proofs.Ytlnenahbffkbiaa
open Go
set_option linter.unusedVariables false
set_option linter.unusedSimpArgs false
set_option maxHeartbeats 4000000
theorem s_luPkgs_L (a b : List TPkg) (hl : a.length = b.length) (h47 : a.length ≤ 2000000) (hp0 : PL a) : ∀ i, i ≤ a.length → (∀ j, j < i → nth a j = nth b j) → ∀ (k : Int) (c : Nat), k = i →
    Ev (fun n => L12_4 (callF prg n) (n + 1) 0 (n + 1 - c) (.sl 4 (a.map ePkg)) (.sl 4 (b.map ePkg)) (iI k) []) (Is (bB (decide (a = b))) []) := by
  refine up_ind ?_
  intro i hi ih hp k c hk
  subst hk
  (refine UL12_4 ?_; unfold LB12_4)
  repeat' (first | ((with_reducible refine eB ?_); first | ((with_reducible refine ev_lss ?_ ?_) <;> intro h <;> try (exfalso; omega)) | ((with_reducible refine ev_add ?_ ?_); · omega) | refine ev_bd rfl ?_ | refine ev_bd0 rfl ?_) | ((with_reducible refine eL ?_); first | ((with_reducible refine ev_lenm ?_ ?_); · rfl) | refine ev_lenom rfl rfl ?_ | refine ev_lenfm rfl rfl ?_ | refine ev_lenoc rfl rfl rfl ?_ | refine ev_lenc rfl rfl ?_ | refine ev_leno rfl rfl ?_ | refine ev_slen rfl ?_ | refine ev_bd rfl ?_ | refine ev_bd0 rfl ?_) | ((with_reducible refine eI ?_); first | ((with_reducible refine ev_idxn ?_ ?_ ?_); (· rfl); · omega) | (refine ev_idxon rfl rfl ?_ ?_; (· first | omega | (simp only [List.length_cons, List.length_nil, List.length_map, List.length_append]; omega))) | (refine ev_idxfn rfl rfl ?_ ?_; (focus omega)) | ((with_reducible refine ev_idx ?_ ?_ ?_); (· rfl); · omega) | (refine ev_idxo rfl rfl ?_ ?_; (· first | omega | (simp only [List.length_cons, List.length_nil, List.length_map, List.length_append]; omega))) | (refine ev_idxf rfl rfl ?_ ?_; (focus omega)) | refine ev_bd rfl ?_ | refine ev_bd0 rfl ?_) | ((with_reducible refine eC ?_); first | ((refine ev_callD (s_luPkg _ _ (hp0 i).1 (hp0 i).2) rfl rfl ?_ rfl rfl ?_ ?_); (focus first | exact .inl rfl | exact .inr rfl | (refine .inr ?_; simp [flagC, ownF, hasSl3, hasSl1, SO.hasSl, List.all_map, flatSV, SV.cells, Function.comp_def]; done)); (all_goals (intro h)); (all_goals (try (exfalso; first | omega | exact h rfl | exact h ⟨rfl, rfl, rfl⟩))))) | ((with_reducible refine eK ?_); first | (with_reducible first | refine ev_ct ?_ | refine ev_cf ?_) | ((with_reducible refine ev_cond ?_ ?_) <;> intro h)) | ((with_reducible refine eO ?_); first | refine ev_bd rfl ?_ | (refine ev_bdB rfl ?_ ?_ <;> intro h <;> try (exfalso; simp_all; done)) | refine ev_bd0 rfl ?_ | (refine ev_ldm rfl ?_ rfl ?_; (focus omega)) | (refine ev_ldmB rfl ?_ rfl ?_ ?_; (focus omega); (all_goals intro h))) | ((with_reducible refine eD ?_); first | refine ev_bd rfl ?_ | refine ev_bd0 rfl ?_) | ((with_reducible refine ih ?_ (all_step hp ?_) _ _ ?_) <;> (first | omega | assumption | ((exact h)) | (simp only [*, List.map_append, List.length_append, List.length_cons, List.length_nil, List.map_cons, List.map_nil]; done) | (simp_all; done) | (simp_all; omega))) | refine ev_ret rfl ?_)
  · exact ⟨congrArg bB (Eq.symm (decide_eq_false fun e => h (by rw [e]))), rfl⟩
  · exact ⟨congrArg bB (Eq.symm (decide_eq_true (eq_of_nth hl fun j hj => hp j (by omega)))), rfl⟩
theorem s_luPkgs (a b : List TPkg) (h47 : a.length ≤ 2000000) (hp0 : PL a) : Ex (fun m => callF prg m 12 [.sl 4 (a.map ePkg), .sl 4 (b.map ePkg)] []) (bB (decide (a = b))) [] := by
  refine ev_is.1 ?_
  (refine U12 (nl := 0) rfl ?_; unfold B12)
  repeat' (first | ((with_reducible refine eB ?_); first | ((with_reducible refine ev_neq ?_ ?_) <;> intro h <;> try (exfalso; omega)) | refine ev_bd rfl ?_ | refine ev_bd0 rfl ?_) | ((with_reducible refine eL ?_); first | ((with_reducible refine ev_lenm ?_ ?_); · rfl) | refine ev_lenom rfl rfl ?_ | refine ev_lenfm rfl rfl ?_ | refine ev_lenoc rfl rfl rfl ?_ | refine ev_lenc rfl rfl ?_ | refine ev_leno rfl rfl ?_ | refine ev_slen rfl ?_ | refine ev_bd rfl ?_ | refine ev_bd0 rfl ?_) | ((with_reducible refine eK ?_); first | (with_reducible first | refine ev_ct ?_ | refine ev_cf ?_) | ((with_reducible refine ev_cond ?_ ?_) <;> intro h)) | ((with_reducible refine eD ?_); first | refine ev_bd rfl ?_ | refine ev_bd0 rfl ?_) | ( exact s_luPkgs_L a b (by omega) h47 hp0 0 (by omega) (fun j hj => by omega) 0 0 rfl) | refine ev_ret rfl ?_)
  exact ⟨congrArg bB (Eq.symm (decide_eq_false fun e => h (by rw [e]))), rfl⟩
theorem newest_is {s : List TPkg} (hs : srt s) {p : TPkg} (hp : p ∈ s) : newestP s p.name = (p, true) := by
  cases h : newestP s p.name with
  | mk q ok =>
    cases ok with
    | false => exact absurd rfl ((newest_false h).2 p hp)
    | true =>
      obtain ⟨e1, e2, -⟩ := newest_true h
      have : q = p := by
        obtain ⟨a, ha, rfl⟩ := mem_nth e1
        obtain ⟨b, hb, rfl⟩ := mem_nth hp
        rcases Nat.lt_trichotomy a b with h | h | h
        · have := srt_nth hs h hb; omega
        · rw [h]
        · have := srt_nth hs h ha; omega
      rw [this]
structure Got (st hv : List TPkg) (name : Int) (r : List TPkg) : Prop where
  ok : forOk st hv name
  all : allPick st hv name
  eq : r = outP st hv name
  plan : planOk r = true
theorem got_of {st hv : List TPkg} {name : Int} {r : List TPkg} (h : planFor st hv name = (r, true)) : Got st hv name r := by
  by_cases ho : forOk st hv name
  · rw [planFor_yes ho] at h
    by_cases hc : allPick st hv name ∧ planOk (outP st hv name) = true
    · rw [forP_yes hc.1 hc.2] at h
      obtain ⟨rfl, -⟩ := Prod.mk.inj h
      exact ⟨ho, hc.1, rfl, hc.2⟩
    · rw [forP_no hc] at h; cases h
  · rw [planFor_no ho] at h; cases h
theorem Got.planFor {st hv : List TPkg} {name : Int} {r : List TPkg} (h : Got st hv name r) : planFor st hv name = (r, true) := by
  rw [planFor_yes h.ok, forP_yes h.all (h.eq ▸ h.plan), h.eq]
theorem Got.tst {st hv : List TPkg} {name : Int} {r : List TPkg} (h : Got st hv name r) : tames st := tames_of (store_pkgs h.ok.1)
theorem Got.thv {st hv : List TPkg} {name : Int} {r : List TPkg} (h : Got st hv name r) : tames hv := tames_of (plan_pkgs h.ok.2.1)
theorem Got.mem {st hv : List TPkg} {name : Int} {r : List TPkg} (h : Got st hv name r) {p : TPkg} : p ∈ r ↔ Reach st hv name p.name ∧ pickP st hv p.name = (p, true) := by
  rw [h.eq]; exact outP_mem ⟨h.ok.2.2.1, h.ok.2.2.2⟩ h.tst h.thv h.all
theorem Got.srt {st hv : List TPkg} {name : Int} {r : List TPkg} (h : Got st hv name r) : srt r := (plan_iff.1 h.plan).2.1
theorem Got.store {st hv : List TPkg} {name : Int} {r : List TPkg} (h : Got st hv name r) : storeOk r = true := (planOk_iff.1 h.plan).1
theorem Got.reach {st hv : List TPkg} {name : Int} {r : List TPkg} (h : Got st hv name r) {n : Int} (hr : Reach st hv name n) : ∃ p, p ∈ r ∧ p.name = n ∧ pickP st hv n = (p, true) := by
  have h1 := h.all n hr
  have h2 : pickP st hv n = ((pickP st hv n).1, true) := Prod.ext rfl h1
  obtain ⟨e, -⟩ := pick_true h2
  exact ⟨_, h.mem.2 ⟨by rw [e]; exact hr, by rw [e]; exact h2⟩, e, h2⟩
theorem pick_ge {st hv : List TPkg} {n : Int} {p : TPkg} (hs : storeOk st = true) (hs2 : storeOk hv = true) (h : pickP st hv n = (p, true)) {x : TPkg} (hx : x ∈ st ∨ x ∈ hv) (hn : x.name = n) : x.ver ≤ p.ver := by
  have hge : ∀ {s : List TPkg} {q : TPkg}, storeOk s = true → newestP s n = (q, true) → x ∈ s → x.ver ≤ q.ver := fun hs hq hx => by
    rcases store_max hs hq hx hn with e | e
    · rw [e]; exact Int.le_refl _
    · omega
  have hthere : ∀ {s : List TPkg}, x ∈ s → (newestP s n).2 = true := fun {s} hx => by
    cases h9 : (newestP s n).2 with
    | true => rfl
    | false => exact absurd hn ((newest_false (s := s) (name := n) (p := (newestP s n).1) (Prod.ext rfl h9)).2 x hx)
  have two : ∀ {s : List TPkg}, (newestP s n).2 = true → newestP s n = ((newestP s n).1, true) := fun h => Prod.ext rfl h
  unfold pickP at h
  split at h
  · rename_i h0
    obtain ⟨rfl, -⟩ := Prod.mk.inj h
    rcases hx with hx | hx
    · exact hge hs (two h0.1) hx
    · rcases h0.2 with e | e
      · rw [hthere hx] at e; cases e
      · have := hge hs2 (two (hthere hx)) hx
        omega
  · rename_i h0
    rcases hx with hx | hx
    · have h1 := hge hs (two (hthere hx)) hx
      by_cases e : (newestP hv n).1.ver < (newestP st n).1.ver
      · exact absurd ⟨hthere hx, .inr e⟩ h0
      · rw [h] at e; dsimp only at e; omega
    · exact hge hs2 h hx
theorem planFor_len {st hv : List TPkg} {name : Int} {r : List TPkg} {ok : Bool} (h : planFor st hv name = (r, ok)) (h4 : hv.length ≤ 4) (h1 : smalls st) (h2 : smalls hv) : r.length ≤ 4 ∧ PL r := by
  by_cases ho : forOk st hv name
  · rw [planFor_yes ho] at h
    exact ⟨(forP_mem h).1, PL_small (forP_small h h1 h2)⟩
  · rw [planFor_no ho] at h
    obtain ⟨rfl, -⟩ := Prod.mk.inj h
    exact ⟨by simp, PL_small smalls_nil⟩
theorem s_luPSame (a : List TPkg) (h47 : a.length ≤ 2000000) (hp0 : PL a) : Ex (fun m => callF prg m 12 [.sl 4 (a.map ePkg), .sl 4 (a.map ePkg)] []) (bB true) [] := by
  have := s_luPkgs a a h47 hp0
  rwa [decide_eq_true rfl] at this
theorem storeNewest_ok {s : List TPkg} (h : storeOk s = true) (n : Int) : storeNewest s n = newestP s n := if_pos h
end Go.Proofs.Ytlnenahbffkbiaa

/- What is to be in: again, from nothing, in another order. -/
namespace Go.Proofs.Ytlnenahbffkbiaa
open Go
set_option linter.unusedVariables false
set_option linter.unusedSimpArgs false
set_option maxHeartbeats 4000000
theorem newest_none {s : List TPkg} {n : Int} (h : ∀ x, x ∈ s → x.name ≠ n) : newestP s n = (zPkg, false) := by
  cases h9 : newestP s n with
  | mk q ok =>
    cases ok with
    | true => obtain ⟨e1, e2, -⟩ := newest_true h9; exact absurd e2 (h q e1)
    | false => rw [(newest_false h9).1]
theorem newest_nil (n : Int) : newestP [] n = (zPkg, false) := newest_none fun x h => by cases h
theorem pick_nil (hv : List TPkg) (n : Int) : pickP [] hv n = newestP hv n := by
  unfold pickP
  rw [newest_nil, if_neg (by rintro ⟨h, -⟩; cases h)]
theorem Got.again {st hv : List TPkg} {name : Int} {r : List TPkg} (h : Got st hv name r) {q : TPkg} (hq : q ∈ r) : pickP st r q.name = (q, true) := by
  have h1 := newest_is h.srt hq
  unfold pickP
  rw [h1, if_neg]
  rintro ⟨h2, h3⟩
  rcases h3 with h3 | h3
  · cases h3
  · have h4 : newestP st q.name = ((newestP st q.name).1, true) := Prod.ext rfl h2
    obtain ⟨e1, e2, -⟩ := newest_true h4
    have := pick_ge h.ok.1 (planOk_iff.1 h.ok.2.1).1 (h.mem.1 hq).2 (.inl e1) e2
    dsimp only at h3; omega
theorem got_in {st r : List TPkg} (hs : storeOk st = true) (hp : planOk r = true) (hpk : ∀ q, q ∈ r → pickP st r q.name = (q, true)) (hd : ∀ q, q ∈ r → ∀ d, d ∈ q.deps → ∃ p, p ∈ r ∧ p.name = d.name) {m : Int} (hm : ∃ q, q ∈ r ∧ q.name = m) : Got st r m r := by
  have hre : ∀ n, Reach st r m n → ∃ q, q ∈ r ∧ q.name = n := by
    intro n hr
    induction hr with
    | this => exact hm
    | was hp => exact ⟨_, hp, rfl⟩
    | need h1 h2 h3 ih =>
      obtain ⟨q, hq, rfl⟩ := ih
      rw [hpk q hq] at h2
      obtain ⟨rfl, -⟩ := Prod.mk.inj h2
      exact hd _ hq _ h3
  have hall : allPick st r m := fun n hn => by
    obtain ⟨q, hq, rfl⟩ := hre n hn
    rw [hpk q hq]
  have hmr : 1 ≤ m ∧ m ≤ 4 := by
    obtain ⟨q, hq, rfl⟩ := hm
    exact (tames_of (plan_pkgs hp) q hq).1
  refine ⟨⟨hs, hp, hmr.1, hmr.2⟩, hall, srt_ext (plan_iff.1 hp).2.1 (outP_srt hall) fun x => ?_, hp⟩
  rw [outP_mem hmr (tames_of (store_pkgs hs)) (tames_of (plan_pkgs hp)) hall]
  constructor
  · intro hx; exact ⟨.was hx, hpk x hx⟩
  · rintro ⟨h1, h2⟩
    obtain ⟨q, hq, e⟩ := hre _ h1
    rw [← e, hpk q hq] at h2
    obtain ⟨rfl, -⟩ := Prod.mk.inj h2
    exact hq
theorem Got.deps {st hv : List TPkg} {name : Int} {r : List TPkg} (h : Got st hv name r) : ∀ q, q ∈ r → ∀ d, d ∈ q.deps → ∃ p, p ∈ r ∧ p.name = d.name := fun q hq d hd => by
  obtain ⟨a, b⟩ := h.mem.1 hq
  obtain ⟨p, hp, e, -⟩ := h.reach (.need a b hd)
  exact ⟨p, hp, e⟩
theorem Got.twice {st hv : List TPkg} {name : Int} {r : List TPkg} (h : Got st hv name r) {m : Int} (hm : ∃ q, q ∈ r ∧ q.name = m) : Got st r m r :=
  got_in h.ok.1 h.plan (fun q hq => h.again hq) h.deps hm
theorem Got.this {st hv : List TPkg} {name : Int} {r : List TPkg} (h : Got st hv name r) : ∃ q, q ∈ r ∧ q.name = name := by
  obtain ⟨p, hp, e, -⟩ := h.reach .this
  exact ⟨p, hp, e⟩
theorem got_nil {r : List TPkg} (hp : planOk r = true) {m : Int} (hm : ∃ q, q ∈ r ∧ q.name = m) : Got [] r m r := by
  have hsr := (plan_iff.1 hp).2.1
  refine got_in rfl hp (fun q hq => by rw [pick_nil]; exact newest_is hsr hq) (fun q hq d hd => ?_) hm
  obtain ⟨p, hp2, e, -⟩ := (plan_iff.1 hp).2.2.1 q hq d hd
  exact ⟨p, hp2, e⟩
theorem plan_nil_no {hv : List TPkg} {m : Int} (h : ∀ x, x ∈ hv → x.name ≠ m) : planFor [] hv m = ([], false) := by
  by_cases ho : forOk [] hv m
  · rw [planFor_yes ho]
    refine forP_no fun hc => ?_
    have := hc.1 m .this
    rw [pick_nil, newest_none h] at this
    cases this
  · exact planFor_no ho
theorem Got.same {st hv : List TPkg} {name : Int} {r : List TPkg} (h : Got st hv name r) (n : Int) : pickP st r n = pickP st hv n := by
  by_cases e : ∃ q, q ∈ r ∧ q.name = n
  · obtain ⟨q, hq, rfl⟩ := e
    rw [h.again hq, (h.mem.1 hq).2]
  · have h1 : newestP r n = (zPkg, false) := newest_none fun x hx e2 => e ⟨x, hx, e2⟩
    have h2 : newestP hv n = (zPkg, false) := newest_none fun x hx e2 => by
      obtain ⟨q, hq, e3, -⟩ := h.reach (.was hx)
      exact e ⟨q, hq, e3.trans e2⟩
    unfold pickP
    rw [h1, h2]
theorem Got.union {st hv : List TPkg} {name : Int} {r : List TPkg} (h : Got st hv name r) (other n : Int) : Reach st r other n ↔ Reach st hv name n ∨ Reach st hv other n := by
  constructor
  · intro hr
    induction hr with
    | this => exact .inr .this
    | was hp => exact .inl (h.mem.1 hp).1
    | need h1 h2 h3 ih =>
      rw [h.same] at h2
      exact ih.imp (fun a => .need a h2 h3) (fun a => .need a h2 h3)
  · rintro (hr | hr)
    · obtain ⟨q, hq, rfl, -⟩ := h.reach hr
      exact .was hq
    · induction hr with
      | this => exact .this
      | was hp =>
        obtain ⟨q, hq, e, -⟩ := h.reach (.was hp)
        rw [← e]; exact .was hq
      | need h1 h2 h3 ih => exact .need ih (by rw [h.same]; exact h2) h3
theorem got_order {st hv : List TPkg} {name other : Int} {r a y : List TPkg} (h : Got st hv name r) (ha : Got st r other a) (hy : Got st hv other y) : Got st y name a := by
  have hR : ∀ n, Reach st y name n ↔ Reach st r other n := fun n => by rw [hy.union, h.union]; exact Or.comm
  have hP : ∀ n, pickP st y n = pickP st r n := fun n => by rw [hy.same, h.same]
  have hall : allPick st y name := fun n hn => by rw [hP]; exact ha.all n ((hR n).1 hn)
  have hok : forOk st y name := ⟨h.ok.1, hy.plan, h.ok.2.2⟩
  refine ⟨hok, hall, srt_ext ha.srt (outP_srt hall) fun x => ?_, ha.plan⟩
  rw [outP_mem hok.2.2 (tames_of (store_pkgs hok.1)) (tames_of (plan_pkgs hok.2.1)) hall, ha.mem, hR, hP]
theorem s_PlanForEx (st hv : List TPkg) (hs : st.length ≤ 1000000) (hp0 : PL st) (hs2 : hv.length ≤ 1000000) (hp2 : PL hv) (name : Int) {r : List TPkg} {ok : Bool} (h : planFor st hv name = (r, ok)) : Ex (fun n => callF prg n 11 [.sl 4 (st.map ePkg), .sl 4 (hv.map ePkg), iI name] []) (.tup [.osl 0, bB ok]) [.arr false 4 (r.map ePkg)] := by
  obtain ⟨x, os, ⟨r', ok', h1, rfl, rfl⟩, he⟩ := s_PlanForI st hv hs hp0 hs2 hp2 name
  rw [h] at h1
  obtain ⟨rfl, rfl⟩ := Prod.mk.inj h1
  exact he
theorem planFor_small {st hv : List TPkg} {name : Int} {r : List TPkg} {ok : Bool} (h : planFor st hv name = (r, ok)) (h1 : smalls st) (h2 : smalls hv) : smalls r := by
  by_cases ho : forOk st hv name
  · rw [planFor_yes ho] at h
    exact forP_small h h1 h2
  · rw [planFor_no ho] at h
    obtain ⟨rfl, -⟩ := Prod.mk.inj h
    exact smalls_nil
theorem PL_nil0 : PL [] := PL_small smalls_nil
end Go.Proofs.Ytlnenahbffkbiaa
