/- The evaluator S and what it says of functions: Cc, V2, V4, V5, V41. -/
import Derived.Test.YtebaiioejagfoaaDoorCb
import Derived.Test.YtebaiioejagfoaaDoorTm
import Derived.Test.YtebaiioejagfoaaDoorV46
/- impl.IndexOf in the second program. -/
namespace Go.Proofs.YtebaiioejagfoaaDoor
open Go
set_option linter.unusedVariables false
set_option linter.unusedSimpArgs false
set_option maxHeartbeats 4000000
set_option maxRecDepth 100000
theorem s_IndexOfN_L (num til : Int) (s : List TPkg) (hs : s.length ≤ 2000000) (hp0 : PL s) (hok : storeOk s = true) : ∀ i, i ≤ s.length → ∀ (L : List SV) (k : Int) (c : Nat), k = i → L = ((s.take i).map metaOf).map eMeta →
    Ev (fun n => G7_5 (callF prg2 n) (n + 1) 0 (n + 1 - c) [.ptr 0 0, .ptr 1 0, .sl 4 (s.map ePkg), iI s.length, iI k] [.box [iI 0, iI 0, .osl 2], .box [iI num, iI til, .osl 3], .arr false 3 [], .arr false 3 L])
      (Is (.tup [rIndex (indexOf num til s).1, bB (indexOf num til s).2]) [.arr false 3 ((indexOf num til s).1.metas.map eMeta)]) := by
  refine up_ind ?_
  intro i hi ih L k c hk hL
  subst hk
  have hLl : L.length ≤ 2000000 := by rw [hL]; simp only [List.length_map, List.length_take]; omega
  subst hL
  (refine PUG7_5 _ ?_; unfold GB7_5)
  repeat' (first | ((with_reducible refine eB ?_); first | ((with_reducible refine ev_lss ?_ ?_) <;> intro h <;> try (exfalso; omega)) | ((with_reducible refine ev_add ?_ ?_); · omega) | refine ev_bd rfl ?_ | refine ev_bd0 rfl ?_) | ((with_reducible refine eI ?_); first | ((with_reducible refine ev_idx ?_ ?_ ?_); (· rfl); · omega) | (refine ev_idxo rfl rfl ?_ ?_; (· first | omega | (simp only [List.length_cons, List.length_nil, List.length_map, List.length_append]; omega))) | refine ev_bd rfl ?_ | refine ev_bd0 rfl ?_) | ((with_reducible refine eC ?_); first | ((refine ev_call (s_metaOfN (nth s i) (hp0 i).1 (hp0 i).2) rfl rfl ?_ rfl ?_); (focus first | exact .inl rfl | exact .inr rfl | (refine .inr ?_; simp [flagC, ownF, hasSl3, hasSl1, SO.hasSl, List.all_map, flatSV, SV.cells, Function.comp_def]; done))) | ((refine ev_callB (lift (s_IndexOkI num til ((s.take i).map metaOf) (by simp only [List.length_map, List.length_take]; omega)) rfl) rfl rfl ?_ rfl rfl ?_ ?_); (focus first | exact .inl rfl | exact .inr rfl | (refine .inr ?_; simp [flagC, ownF, hasSl3, hasSl1, SO.hasSl, List.all_map, flatSV, SV.cells, Function.comp_def]; done)); (all_goals (intro h)); (all_goals (try (exfalso; simp_all; done))))) | ((with_reducible refine eA ?_); first | (refine ev_app rfl rfl rfl rfl rfl ?_ ?_; · first | decide | (simp only [List.length_append, List.length_cons, List.length_nil, List.length_map, List.length_take, List.length_drop]; omega))) | ((with_reducible refine eK ?_); first | (with_reducible first | refine ev_ct ?_ | refine ev_cf ?_) | ((with_reducible refine ev_cond ?_ ?_) <;> intro h)) | ((with_reducible refine eO ?_); first | refine ev_bd rfl ?_ | (refine ev_bdB rfl ?_ ?_ <;> intro h <;> try (exfalso; simp_all; done)) | refine ev_bd0 rfl ?_ | (refine ev_ldz rfl rfl rfl ?_ ?_ ?_; (· simp); (· first | omega | (simp only [List.length_cons, List.length_nil, List.length_map, List.length_append]; omega)); intro w)) | ((with_reducible refine eD ?_); first | refine ev_bd rfl ?_ | refine ev_bd0 rfl ?_) | ((with_reducible refine ev_dchk ?_ ?_); · intro _; rfl) | ((with_reducible refine eH ?_); first | refine ev_gcB rfl ?_) | (with_reducible first | refine PUL7_5 ?_ | refine PVL7_5 ?_) | ((with_reducible refine ih ?_ _ _ _ ?_ ?_) <;> (first | omega | assumption | ((rw [take_nth (by omega), List.map_append, List.map_append]; rfl)) | (simp only [*, List.map_append, List.length_append, List.length_cons, List.length_nil, List.map_cons, List.map_nil]; done) | (simp_all; done) | (simp_all; omega))) | refine ev_ret rfl ?_)
  · rw [List.take_of_length_le (by omega)] at h ⊢
    exact ⟨by simp [indexOf, hok, h], by simp [indexOf, hok, h]⟩
  · rw [List.take_of_length_le (by omega)] at h
    exact ⟨by simp [indexOf, hok, h, zIndex], by simp [indexOf, hok, h, zIndex]⟩
theorem s_IndexOfN (num til : Int) (s : List TPkg) (hs : s.length ≤ 2000000) (hp0 : PL s) : Ex (fun m => callF prg2 m 7 [iI num, iI til, .sl 4 (s.map ePkg)] []) (.tup [rIndex (indexOf num til s).1, bB (indexOf num til s).2]) [.arr false 3 ((indexOf num til s).1.metas.map eMeta)] := by
  refine ev_is.1 ?_
  (refine PU7 (nl := 0) rfl ?_; unfold B7)
  repeat' (first | ((with_reducible refine eL ?_); first | ((with_reducible refine ev_lenm ?_ ?_); · rfl) | refine ev_lenom rfl rfl ?_ | refine ev_lenoc rfl rfl rfl ?_ | refine ev_lenc rfl rfl ?_ | refine ev_leno rfl rfl ?_ | refine ev_slen rfl ?_ | refine ev_bd rfl ?_ | refine ev_bd0 rfl ?_) | ((with_reducible refine eC ?_); first | ((refine ev_callB (lift (s_StoreOkI s hs hp0) rfl) rfl rfl ?_ rfl rfl ?_ ?_); (focus first | exact .inl rfl | exact .inr rfl | (refine .inr ?_; simp [flagC, ownF, hasSl3, hasSl1, SO.hasSl, List.all_map, flatSV, SV.cells, Function.comp_def]; done)); (all_goals (intro h)); (all_goals (try (exfalso; simp_all; done))))) | ((with_reducible refine eK ?_); first | (with_reducible first | refine ev_ct ?_ | refine ev_cf ?_) | ((with_reducible refine ev_cond ?_ ?_) <;> intro h)) | ((with_reducible refine eO ?_); first | refine ev_bd rfl ?_ | (refine ev_bdB rfl ?_ ?_ <;> intro h <;> try (exfalso; simp_all; done)) | refine ev_bd0 rfl ?_) | ((with_reducible refine eD ?_); first | refine ev_bd rfl ?_ | refine ev_bd0 rfl ?_) | ((with_reducible refine eH ?_); first | refine ev_gcB rfl ?_) | (with_reducible first | refine PUL7_5 ?_ | refine PVL7_5 ?_) | ( exact s_IndexOfN_L num til s hs hp0 (by assumption) 0 (by omega) _ 0 _ rfl (by simp)) | refine ev_ret rfl ?_)
  all_goals first
    | exact ⟨by simp [indexOf, *, zIndex], by simp [indexOf, *, zIndex]⟩
    | trace_state
end Go.Proofs.YtebaiioejagfoaaDoor

/- What the draws of keys and roots give. -/
namespace Go.Proofs.YtebaiioejagfoaaDoor
open Go
set_option linter.unusedVariables false
set_option maxHeartbeats 4000000
set_option linter.unusedSimpArgs false
end Go.Proofs.YtebaiioejagfoaaDoor

/- Trust begins with a root. -/
namespace Go.Proofs.YtebaiioejagfoaaDoor
open Go
set_option linter.unusedVariables false
set_option linter.unusedSimpArgs false
set_option maxHeartbeats 4000000
def zTrust : TTrust := ⟨⟨0, [], 0⟩, false, ⟨0, 0, []⟩⟩
def trustNew (r : TRoot) : TTrust × Bool := if rootOk r.num r.keys r.need = true then (⟨r, false, ⟨0, 0, []⟩⟩, true) else (zTrust, false)
def QTrust (p : TTrust × Bool) : SV → List SO → Prop := fun x os => ∃ t ok, p = (t, ok) ∧ x = .tup [rTrust t, bB ok] ∧ os = oTrust t
end Go.Proofs.YtebaiioejagfoaaDoor

/- Keys among both; who has signed. -/
namespace Go.Proofs.YtebaiioejagfoaaDoor
open Go
set_option linter.unusedVariables false
set_option linter.unusedSimpArgs false
set_option maxHeartbeats 4000000
def cnt (b : List Int) (v : Int) : Nat := (b.filter fun x => decide (v = x)).length
def both' (a b : List Int) : Nat := (a.filter fun x => decide (x ∈ b)).length
def pairs (a b : List Int) : Nat := (a.map (cnt b)).sum
def rootSigned (r : TRoot) (by_ : List Int) : Bool := rootOk r.num r.keys r.need && keysOk by_ && decide (r.need ≤ both' r.keys by_)
def rootNext (r s : TRoot) (by_ : List Int) : Bool := rootSigned r by_ && rootSigned s by_ && decide (s.num = r.num + 1)
def trustRoot (t : TTrust) (s : TRoot) (b : List Int) : TTrust × Bool :=
  if trustOk t = true then (if rootNext t.root s b = true then (⟨s, t.has, t.index⟩, true) else (t, false)) else (zTrust, false)
def trustIndex (t : TTrust) (x : TIndex) (b : List Int) (now : Int) : TTrust × Bool :=
  if trustOk t = true ∧ 0 ≤ now ∧ now ≤ 60 then
    (if indexOk x.num x.til x.metas = true ∧ rootSigned t.root b = true ∧ ¬ x.til < now ∧ ¬ (t.has = true ∧ x.num ≤ t.index.num) then (⟨t.root, true, x⟩, true) else (t, false))
  else (zTrust, false)
def TP (t : TTrust) (k m : SV) (os : List SO) : Prop :=
  (k = .osl 0 ∧ m = .osl 1 ∧ os = oTrust t) ∨ (k = .sl 1 (t.root.keys.map iI) ∧ m = .sl 3 (t.index.metas.map eMeta) ∧ os = []) ∨
  (k = .osl 0 ∧ m = .sl 3 (t.index.metas.map eMeta) ∧ os = [.arr false 1 (t.root.keys.map iI)]) ∨ (k = .sl 1 (t.root.keys.map iI) ∧ m = .osl 0 ∧ os = [.arr false 3 (t.index.metas.map eMeta)])
abbrev mTrust (t : TTrust) (k m : SV) : SV := .ag [iI t.root.num, k, iI t.root.need, bB t.has, iI t.index.num, iI t.index.til, m]
def QTrustM (p : TTrust × Bool) : SV → List SO → Prop := fun x os => ∃ t ok k m, p = (t, ok) ∧ x = .tup [mTrust t k m, bB ok] ∧ TP t k m os
end Go.Proofs.YtebaiioejagfoaaDoor

/- The exact laws' own functions, over what indexes tell, roots, indexes, trust. -/
namespace Go.Proofs.YtebaiioejagfoaaDoor
open Go
set_option linter.unusedVariables false
set_option linter.unusedSimpArgs false
set_option maxHeartbeats 4000000
theorem s_eqMeta (a b c a' b' c' : Int) : Ex (fun m => callF prg m 44 [.ag [iI a, iI b, iI c], .ag [iI a', iI b', iI c']] []) (bB (decide (a = a' ∧ b = b' ∧ c = c'))) [] := by
  refine ev_is.1 ?_
  (refine U44 (nl := 0) rfl ?_; unfold B44)
  repeat' (first | ((with_reducible refine eB ?_); first | ((with_reducible refine ev_neq ?_ ?_) <;> intro h <;> try (exfalso; omega)) | refine ev_bd rfl ?_ | refine ev_bd0 rfl ?_) | ((with_reducible refine eK ?_); first | (with_reducible first | refine ev_ct ?_ | refine ev_cf ?_) | ((with_reducible refine ev_cond ?_ ?_) <;> intro h)) | ((with_reducible refine eO ?_); first | refine ev_bd rfl ?_ | (refine ev_bdB rfl ?_ ?_ <;> intro h <;> try (exfalso; simp_all; done)) | refine ev_bd0 rfl ?_ | (refine ev_ldm rfl ?_ rfl ?_; (focus omega)) | (refine ev_ldmB rfl ?_ rfl ?_ ?_; (focus omega); (all_goals intro h))) | ((with_reducible refine eD ?_); first | refine ev_bd rfl ?_ | refine ev_bd0 rfl ?_) | refine ev_ret rfl ?_)
  all_goals (refine ⟨congrArg (fun b => SV.v (Value.bool b)) ?_, rfl⟩; first | (simp_all []; done) | (simp_all []; omega) | (simp [] at *; omega) | (simp []; omega) | grind [] | trace_state)
theorem s_eqMetaS_L (a b : List TMeta) (hl : a.length = b.length) (h47 : a.length ≤ 2000000) : ∀ i, i ≤ a.length → (∀ j, j < i → nth a j = nth b j) → ∀ (k : Int) (c : Nat), k = i →
    Ev (fun n => L22_4 (callF prg n) (n + 1) 0 (n + 1 - c) (.sl 3 (a.map eMeta)) (.sl 3 (b.map eMeta)) (iI k) []) (Is (bB (decide (a = b))) []) := by
  refine up_ind ?_
  intro i hi ih hp k c hk
  subst hk
  (refine UL22_4 ?_; unfold LB22_4)
  repeat' (first | ((with_reducible refine eB ?_); first | ((with_reducible refine ev_lss ?_ ?_) <;> intro h <;> try (exfalso; omega)) | ((with_reducible refine ev_add ?_ ?_); · omega) | refine ev_bd rfl ?_ | refine ev_bd0 rfl ?_) | ((with_reducible refine eL ?_); first | ((with_reducible refine ev_lenm ?_ ?_); · rfl) | refine ev_lenom rfl rfl ?_ | refine ev_lenfm rfl rfl ?_ | refine ev_lenoc rfl rfl rfl ?_ | refine ev_lenc rfl rfl ?_ | refine ev_leno rfl rfl ?_ | refine ev_slen rfl ?_ | refine ev_bd rfl ?_ | refine ev_bd0 rfl ?_) | ((with_reducible refine eI ?_); first | ((with_reducible refine ev_idxn ?_ ?_ ?_); (· rfl); · omega) | (refine ev_idxon rfl rfl ?_ ?_; (· first | omega | (simp only [List.length_cons, List.length_nil, List.length_map, List.length_append]; omega))) | (refine ev_idxfn rfl rfl ?_ ?_; (focus omega)) | ((with_reducible refine ev_idx ?_ ?_ ?_); (· rfl); · omega) | (refine ev_idxo rfl rfl ?_ ?_; (· first | omega | (simp only [List.length_cons, List.length_nil, List.length_map, List.length_append]; omega))) | (refine ev_idxf rfl rfl ?_ ?_; (focus omega)) | refine ev_bd rfl ?_ | refine ev_bd0 rfl ?_) | ((with_reducible refine eC ?_); first | ((refine ev_callD (s_eqMeta _ _ _ _ _ _) rfl rfl ?_ rfl rfl ?_ ?_); (focus first | exact .inl rfl | exact .inr rfl | (refine .inr ?_; simp [flagC, ownF, hasSl3, hasSl1, SO.hasSl, List.all_map, flatSV, SV.cells, Function.comp_def]; done)); (all_goals (intro h)); (all_goals (try (exfalso; first | omega | exact h rfl | exact h ⟨rfl, rfl, rfl⟩))))) | ((with_reducible refine eK ?_); first | (with_reducible first | refine ev_ct ?_ | refine ev_cf ?_) | ((with_reducible refine ev_cond ?_ ?_) <;> intro h)) | ((with_reducible refine eO ?_); first | refine ev_bd rfl ?_ | (refine ev_bdB rfl ?_ ?_ <;> intro h <;> try (exfalso; simp_all; done)) | refine ev_bd0 rfl ?_ | (refine ev_ldm rfl ?_ rfl ?_; (focus omega)) | (refine ev_ldmB rfl ?_ rfl ?_ ?_; (focus omega); (all_goals intro h))) | ((with_reducible refine eD ?_); first | refine ev_bd rfl ?_ | refine ev_bd0 rfl ?_) | ((with_reducible refine ih ?_ (all_step hp ?_) _ _ ?_) <;> (first | omega | assumption | ((exact TMeta.eq3 h)) | (simp only [*, List.map_append, List.length_append, List.length_cons, List.length_nil, List.map_cons, List.map_nil]; done) | (simp_all; done) | (simp_all; omega))) | refine ev_ret rfl ?_)
  · exact ⟨congrArg bB (Eq.symm (decide_eq_false fun e => h (by rw [e]; exact ⟨rfl, rfl, rfl⟩))), rfl⟩
  · exact ⟨congrArg bB (Eq.symm (decide_eq_true (eq_of_nth hl fun j hj => hp j (by omega)))), rfl⟩
theorem s_eqMetaS (a b : List TMeta) (h47 : a.length ≤ 2000000) : Ex (fun m => callF prg m 22 [.sl 3 (a.map eMeta), .sl 3 (b.map eMeta)] []) (bB (decide (a = b))) [] := by
  refine ev_is.1 ?_
  (refine U22 (nl := 0) rfl ?_; unfold B22)
  repeat' (first | ((with_reducible refine eB ?_); first | ((with_reducible refine ev_neq ?_ ?_) <;> intro h <;> try (exfalso; omega)) | refine ev_bd rfl ?_ | refine ev_bd0 rfl ?_) | ((with_reducible refine eL ?_); first | ((with_reducible refine ev_lenm ?_ ?_); · rfl) | refine ev_lenom rfl rfl ?_ | refine ev_lenfm rfl rfl ?_ | refine ev_lenoc rfl rfl rfl ?_ | refine ev_lenc rfl rfl ?_ | refine ev_leno rfl rfl ?_ | refine ev_slen rfl ?_ | refine ev_bd rfl ?_ | refine ev_bd0 rfl ?_) | ((with_reducible refine eK ?_); first | (with_reducible first | refine ev_ct ?_ | refine ev_cf ?_) | ((with_reducible refine ev_cond ?_ ?_) <;> intro h)) | ((with_reducible refine eD ?_); first | refine ev_bd rfl ?_ | refine ev_bd0 rfl ?_) | ( exact s_eqMetaS_L a b (by omega) h47 0 (by omega) (fun j hj => by omega) 0 0 rfl) | refine ev_ret rfl ?_)
  all_goals (refine ⟨congrArg bB (Eq.symm (decide_eq_false fun e => ?_)), rfl⟩; subst e; omega)
def markM (k : Int) (n : Nat) : List TMeta := (List.range n).map fun i : Nat => ⟨k + 3 * (i : Int), k + 3 * (i : Int) + 1, k + 3 * (i : Int) + 2⟩
theorem markM_len (k : Int) (n : Nat) : (markM k n).length = n := by simp [markM]
theorem markM_nth {k : Int} {n i : Nat} (h : i < n) : nth (markM k n) i = ⟨k + 3 * (i : Int), k + 3 * (i : Int) + 1, k + 3 * (i : Int) + 2⟩ := by
  unfold markM nth
  rw [List.getD_eq_getElem?_getD, List.getElem?_map, List.getElem?_range h]; rfl
theorem s_markMetaS_L (k0 : Int) (hk0 : 0 ≤ k0 ∧ k0 ≤ 100000000) (m : Nat) (hm : m ≤ 2000000) : ∀ i, i ≤ m → ∀ (w : List TMeta), w.length = m → (∀ j, j < i → nth w j = ⟨k0 + 3 * (j : Int), k0 + 3 * (j : Int) + 1, k0 + 3 * (j : Int) + 2⟩) → ∀ (q k : Int) (c : Nat), k = i → q = k0 + 3 * i →
    Ev (fun n => L26_2 (callF prg n) (n + 1) 1 (n + 1 - c) (.osl 0) (iI q) (iI k) [.arr true 3 (w.map eMeta)]) (Is (iI (k0 + 3 * m)) [.arr true 3 ((markM k0 m).map eMeta)]) := by
  refine up_ind ?_
  intro i hi ih w hw hp q k c hk hq
  subst hk
  have hset : i < m → ∀ a b : TMeta, ((w.set i a).set i b).length = m ∧ (∀ x, nth (w.set i x) i = x) := fun h a b => ⟨by rw [List.length_set, List.length_set]; exact hw, fun x => by rw [nth_set', if_pos ⟨rfl, by omega⟩]⟩
  have hfin : i < m → ∀ x : TMeta, x = ⟨k0 + 3 * (i : Int), k0 + 3 * (i : Int) + 1, k0 + 3 * (i : Int) + 2⟩ → ∀ a b : TMeta, (((w.set i a).set i b).set i x).length = m ∧ ∀ j, j < i + 1 → nth (((w.set i a).set i b).set i x) j = ⟨k0 + 3 * (j : Int), k0 + 3 * (j : Int) + 1, k0 + 3 * (j : Int) + 2⟩ := fun h x hx a b => by
    refine ⟨by rw [List.length_set, List.length_set, List.length_set]; exact hw, fun j hj => ?_⟩
    rw [List.set_set, List.set_set, nth_set']
    split
    · rename_i e; rw [← e.1]; exact hx
    · exact hp j (by omega)
  by_cases hi2 : i < m
  · have e1 : ∀ x, nth (w.set i x) i = x := fun x => by rw [nth_set', if_pos ⟨rfl, by omega⟩]
    have e2 : ∀ x y, nth ((w.set i x).set i y) i = y := fun x y => by rw [nth_set', if_pos ⟨rfl, by rw [List.length_set]; omega⟩]
    have f := hfin hi2 ⟨q, q + 1, q + 1 + 1⟩ (by rw [hq]; simp; omega) ⟨q, (nth w i).ver, (nth w i).sum⟩ ⟨q, q + 1, (nth w i).sum⟩
    (refine UL26_2 ?_; unfold LB26_2)
    repeat' (first | ((with_reducible refine eB ?_); first | ((with_reducible refine ev_lss ?_ ?_) <;> intro h <;> try (exfalso; omega)) | ((with_reducible refine ev_add ?_ ?_); · omega) | refine ev_bd rfl ?_ | refine ev_bd0 rfl ?_) | ((with_reducible refine eL ?_); first | ((with_reducible refine ev_lenm ?_ ?_); · rfl) | refine ev_lenom rfl rfl ?_ | refine ev_lenfm rfl rfl ?_ | refine ev_lenoc rfl rfl rfl ?_ | refine ev_lenc rfl rfl ?_ | refine ev_leno rfl rfl ?_ | refine ev_slen rfl ?_ | refine ev_bd rfl ?_ | refine ev_bd0 rfl ?_) | ((with_reducible refine eI ?_); first | ((with_reducible refine ev_idxn ?_ ?_ ?_); (· rfl); · omega) | (refine ev_idxon rfl rfl ?_ ?_; (· first | omega | (simp only [List.length_cons, List.length_nil, List.length_map, List.length_append]; omega))) | (refine ev_idxfn rfl rfl ?_ ?_; (focus omega)) | ((with_reducible refine ev_idx ?_ ?_ ?_); (· rfl); · omega) | ( (refine ev_idxon rfl rfl ?_ ?_; (focus (simp only [List.length_map, List.length_set]; omega)))) | (refine ev_idxo rfl rfl ?_ ?_; (· first | omega | (simp only [List.length_cons, List.length_nil, List.length_map, List.length_append]; omega))) | (refine ev_idxf rfl rfl ?_ ?_; (focus omega)) | refine ev_bd rfl ?_ | refine ev_bd0 rfl ?_) | ((with_reducible refine eK ?_); first | (with_reducible first | refine ev_ct ?_ | refine ev_cf ?_) | ((with_reducible refine ev_cond ?_ ?_) <;> intro h)) | ((with_reducible refine eD ?_); first | refine ev_bd rfl ?_ | refine ev_bd0 rfl ?_ | ( (refine ev_sto (f := eMeta) (a := ⟨q, (nth w i).ver, (nth w i).sum⟩) rfl rfl rfl rfl rfl rfl rfl rfl ?_ rfl ?_; (focus omega))) | ( (refine ev_sto (f := eMeta) (a := ⟨q, q + 1, (nth w i).sum⟩) rfl rfl rfl rfl rfl rfl rfl (by rw [e1]; rfl) ?_ rfl ?_; (focus (rw [List.length_set]; omega)))) | ( (refine ev_sto (f := eMeta) (a := ⟨q, q + 1, q + 1 + 1⟩) rfl rfl rfl rfl rfl rfl rfl (by rw [e2]; rfl) ?_ rfl ?_; (focus (rw [List.length_set, List.length_set]; omega))))) | ((with_reducible refine ih ?_ _ f.1 f.2 _ _ _ ?_ ?_) <;> (first | omega | assumption | (simp only [*, List.map_append, List.length_append, List.length_cons, List.length_nil, List.map_cons, List.map_nil]; done) | (simp_all; done) | (simp_all; omega))) | refine ev_ret rfl ?_)
  · obtain rfl : w = markM k0 m := eq_of_nth (by rw [hw, markM_len]) fun j hj => by rw [markM_nth (by omega)]; exact hp j (by omega)
    (refine UL26_2 ?_; unfold LB26_2)
    repeat' (first | ((with_reducible refine eB ?_); first | ((with_reducible refine ev_lss ?_ ?_) <;> intro h <;> try (exfalso; omega)) | ((with_reducible refine ev_add ?_ ?_); · omega) | refine ev_bd rfl ?_ | refine ev_bd0 rfl ?_) | ((with_reducible refine eL ?_); first | ((with_reducible refine ev_lenm ?_ ?_); · rfl) | refine ev_lenom rfl rfl ?_ | refine ev_lenfm rfl rfl ?_ | refine ev_lenoc rfl rfl rfl ?_ | refine ev_lenc rfl rfl ?_ | refine ev_leno rfl rfl ?_ | refine ev_slen rfl ?_ | refine ev_bd rfl ?_ | refine ev_bd0 rfl ?_) | ((with_reducible refine eI ?_); first | ((with_reducible refine ev_idxn ?_ ?_ ?_); (· rfl); · omega) | (refine ev_idxon rfl rfl ?_ ?_; (· first | omega | (simp only [List.length_cons, List.length_nil, List.length_map, List.length_append]; omega))) | (refine ev_idxfn rfl rfl ?_ ?_; (focus omega)) | ((with_reducible refine ev_idx ?_ ?_ ?_); (· rfl); · omega) | (refine ev_idxo rfl rfl ?_ ?_; (· first | omega | (simp only [List.length_cons, List.length_nil, List.length_map, List.length_append]; omega))) | (refine ev_idxf rfl rfl ?_ ?_; (focus omega)) | refine ev_bd rfl ?_ | refine ev_bd0 rfl ?_) | ((with_reducible refine eK ?_); first | (with_reducible first | refine ev_ct ?_ | refine ev_cf ?_) | ((with_reducible refine ev_cond ?_ ?_) <;> intro h)) | ((with_reducible refine eD ?_); first | refine ev_bd rfl ?_ | refine ev_bd0 rfl ?_) | refine ev_ret rfl ?_)
    all_goals exact ⟨congrArg iI (by omega), rfl⟩
theorem s_markMetaS (l : List TMeta) (k0 : Int) (hk0 : 0 ≤ k0 ∧ k0 ≤ 100000000) (hl : l.length ≤ 2000000) : Ex (fun m => callF prg m 26 [.osl 0, iI k0] [.arr true 3 (l.map eMeta)]) (iI (k0 + 3 * l.length)) [.arr true 3 ((markM k0 l.length).map eMeta)] := by
  refine ev_is.1 ?_
  (refine U26 (nl := 1) rfl ?_; unfold B26)
  exact s_markMetaS_L k0 hk0 l.length hl 0 (by omega) l rfl (fun j hj => by omega) _ 0 0 rfl (by simp)
theorem s_heldMetaS_L (k0 : Int) (hk0 : 0 ≤ k0 ∧ k0 ≤ 100000000) (m : Nat) (hm : m ≤ 2000000) (w : List TMeta) (hw : w = markM k0 m) : ∀ i, i ≤ m → ∀ (q k : Int) (c : Nat), k = i → q = k0 + 3 * i →
    Ev (fun n => L27_2 (callF prg n) (n + 1) 0 (n + 1 - c) (.sl 3 (w.map eMeta)) (iI q) (iI k) []) (Is (iI (k0 + 3 * m)) []) := by
  have hwl : w.length = m := by rw [hw, markM_len]
  refine up_ind ?_
  intro i hi ih q k c hk hq
  subst hk
  have hn : i < m → (nth w i).name = k0 + 3 * i ∧ (nth w i).ver = k0 + 3 * i + 1 ∧ (nth w i).sum = k0 + 3 * i + 2 := fun h => by rw [hw, markM_nth h]; exact ⟨rfl, rfl, rfl⟩
  (refine UL27_2 ?_; unfold LB27_2)
  repeat' (first | ((with_reducible refine eB ?_); first | ((with_reducible first | refine ev_lss ?_ ?_ | refine ev_neq ?_ ?_) <;> intro h <;> try (exfalso; omega)) | ((with_reducible refine ev_add ?_ ?_); · omega) | refine ev_bd rfl ?_ | refine ev_bd0 rfl ?_) | ((with_reducible refine eL ?_); first | ((with_reducible refine ev_lenm ?_ ?_); · rfl) | refine ev_lenom rfl rfl ?_ | refine ev_lenfm rfl rfl ?_ | refine ev_lenoc rfl rfl rfl ?_ | refine ev_lenc rfl rfl ?_ | refine ev_leno rfl rfl ?_ | refine ev_slen rfl ?_ | refine ev_bd rfl ?_ | refine ev_bd0 rfl ?_) | ((with_reducible refine eI ?_); first | ((with_reducible refine ev_idxn ?_ ?_ ?_); (· rfl); · omega) | (refine ev_idxon rfl rfl ?_ ?_; (· first | omega | (simp only [List.length_cons, List.length_nil, List.length_map, List.length_append]; omega))) | (refine ev_idxfn rfl rfl ?_ ?_; (focus omega)) | ((with_reducible refine ev_idx ?_ ?_ ?_); (· rfl); · omega) | (refine ev_idxo rfl rfl ?_ ?_; (· first | omega | (simp only [List.length_cons, List.length_nil, List.length_map, List.length_append]; omega))) | (refine ev_idxf rfl rfl ?_ ?_; (focus omega)) | refine ev_bd rfl ?_ | refine ev_bd0 rfl ?_) | ((with_reducible refine eK ?_); first | (with_reducible first | refine ev_ct ?_ | refine ev_cf ?_) | ((with_reducible refine ev_cond ?_ ?_) <;> intro h)) | ((with_reducible refine eO ?_); first | refine ev_bd rfl ?_ | (refine ev_bdB rfl ?_ ?_ <;> intro h <;> try (exfalso; simp_all; done)) | refine ev_bd0 rfl ?_ | (refine ev_ldm rfl ?_ rfl ?_; (focus omega)) | (refine ev_ldmB rfl ?_ rfl ?_ ?_; (focus omega); (all_goals intro h))) | ((with_reducible refine eD ?_); first | refine ev_bd rfl ?_ | refine ev_bd0 rfl ?_) | ((with_reducible refine ih ?_ _ _ _ ?_ ?_) <;> (first | omega | assumption | (simp only [*, List.map_append, List.length_append, List.length_cons, List.length_nil, List.map_cons, List.map_nil]; done) | (simp_all; done) | (simp_all; omega))) | refine ev_ret rfl ?_)
  all_goals first
    | (exfalso; have := hn (by omega); omega)
    | exact ⟨congrArg iI (by omega), rfl⟩
    | trace_state
theorem s_heldMetaS (k0 : Int) (hk0 : 0 ≤ k0 ∧ k0 ≤ 100000000) (m : Nat) (hm : m ≤ 2000000) : Ex (fun n => callF prg n 27 [.sl 3 ((markM k0 m).map eMeta), iI k0] []) (iI (k0 + 3 * m)) [] := by
  refine ev_is.1 ?_
  (refine U27 (nl := 0) rfl ?_; unfold B27)
  exact s_heldMetaS_L k0 hk0 m hm _ rfl 0 (by omega) _ 0 0 rfl (by simp)
theorem s_eqIndex (a b : TIndex) (hl : a.metas.length ≤ 2000000) : Ex (fun m => callF prg m 8 [aIndex a, aIndex b] []) (bB (decide (a = b))) [] := by
  refine ev_is.1 ?_
  cases a; cases b
  (refine U8 (nl := 0) rfl ?_; unfold B8)
  repeat' (first | ((with_reducible refine eB ?_); first | ((with_reducible refine ev_neq ?_ ?_) <;> intro h <;> try (exfalso; omega)) | refine ev_bd rfl ?_ | refine ev_bd0 rfl ?_) | ((with_reducible refine eC ?_); first | ((refine ev_callD (s_eqMetaS _ _ hl) rfl rfl ?_ rfl rfl ?_ ?_); (focus first | exact .inl rfl | exact .inr rfl | (refine .inr ?_; simp [flagC, ownF, hasSl3, hasSl1, SO.hasSl, List.all_map, flatSV, SV.cells, Function.comp_def]; done)); (all_goals (intro h)); (all_goals (try (exfalso; first | omega | exact h rfl | exact h ⟨rfl, rfl, rfl⟩))))) | ((with_reducible refine eK ?_); first | (with_reducible first | refine ev_ct ?_ | refine ev_cf ?_) | ((with_reducible refine ev_cond ?_ ?_) <;> intro h)) | ((with_reducible refine eO ?_); first | refine ev_bd rfl ?_ | (refine ev_bdB rfl ?_ ?_ <;> intro h <;> try (exfalso; simp_all; done)) | refine ev_bd0 rfl ?_ | (refine ev_ldm rfl ?_ rfl ?_; (focus omega)) | (refine ev_ldmB rfl ?_ rfl ?_ ?_; (focus omega); (all_goals intro h))) | ((with_reducible refine eD ?_); first | refine ev_bd rfl ?_ | refine ev_bd0 rfl ?_) | refine ev_ret rfl ?_)
  all_goals (refine ⟨congrArg (fun b => SV.v (Value.bool b)) ?_, rfl⟩; first | (simp_all []; done) | (simp_all []; omega) | (simp [] at *; omega) | (simp []; omega) | grind [] | trace_state)
theorem s_markIndex (x : TIndex) (k0 : Int) (hk0 : 0 ≤ k0 ∧ k0 ≤ 100000000) (hl : x.metas.length ≤ 2000000) : Ex (fun m => callF prg m 11 [.ag [iI x.num, iI x.til, .osl 0], iI k0] [.arr true 3 (x.metas.map eMeta)]) (iI (k0 + 3 * x.metas.length)) [.arr true 3 ((markM k0 x.metas.length).map eMeta)] := by
  refine ev_is.1 ?_
  (refine U11 (nl := 1) rfl ?_; unfold B11)
  repeat' (first | ((with_reducible refine eC ?_); first | ((refine ev_call (s_markMetaS x.metas k0 hk0 hl) rfl rfl ?_ rfl ?_); (focus first | exact .inl rfl | exact .inr rfl | (refine .inr ?_; simp [flagC, ownF, hasSl3, hasSl1, SO.hasSl, List.all_map, flatSV, SV.cells, Function.comp_def]; done)))) | ((with_reducible refine eO ?_); first | refine ev_bd rfl ?_ | (refine ev_bdB rfl ?_ ?_ <;> intro h <;> try (exfalso; simp_all; done)) | refine ev_bd0 rfl ?_ | (refine ev_ldm rfl ?_ rfl ?_; (focus omega)) | (refine ev_ldmB rfl ?_ rfl ?_ ?_; (focus omega); (all_goals intro h))) | ((with_reducible refine eD ?_); first | refine ev_bd rfl ?_ | refine ev_bd0 rfl ?_) | refine ev_ret rfl ?_)
  all_goals exact ⟨rfl, rfl⟩
theorem s_heldIndex (num til : Int) (k0 : Int) (hk0 : 0 ≤ k0 ∧ k0 ≤ 100000000) (m : Nat) (hm : m ≤ 2000000) : Ex (fun n => callF prg n 12 [.ag [iI num, iI til, .sl 3 ((markM k0 m).map eMeta)], iI k0] []) (iI (k0 + 3 * m)) [] := by
  refine ev_is.1 ?_
  (refine U12 (nl := 0) rfl ?_; unfold B12)
  repeat' (first | ((with_reducible refine eB ?_); first | ((with_reducible refine ev_lss ?_ ?_) <;> intro h <;> try (exfalso; omega)) | refine ev_bd rfl ?_ | refine ev_bd0 rfl ?_) | ((with_reducible refine eC ?_); first | ((refine ev_call (s_heldMetaS k0 hk0 m hm) rfl rfl ?_ rfl ?_); (focus first | exact .inl rfl | exact .inr rfl | (refine .inr ?_; simp [flagC, ownF, hasSl3, hasSl1, SO.hasSl, List.all_map, flatSV, SV.cells, Function.comp_def]; done)))) | ((with_reducible refine eK ?_); first | (with_reducible first | refine ev_ct ?_ | refine ev_cf ?_) | ((with_reducible refine ev_cond ?_ ?_) <;> intro h)) | ((with_reducible refine eO ?_); first | refine ev_bd rfl ?_ | (refine ev_bdB rfl ?_ ?_ <;> intro h <;> try (exfalso; simp_all; done)) | refine ev_bd0 rfl ?_ | (refine ev_ldm rfl ?_ rfl ?_; (focus omega)) | (refine ev_ldmB rfl ?_ rfl ?_ ?_; (focus omega); (all_goals intro h))) | ((with_reducible refine eD ?_); first | refine ev_bd rfl ?_ | refine ev_bd0 rfl ?_) | refine ev_ret rfl ?_)
  all_goals first | exact ⟨rfl, rfl⟩ | (exfalso; omega) | trace_state
end Go.Proofs.YtebaiioejagfoaaDoor
