/- The evaluator S and what it says of functions: Cd, V2, V4, V5, V41. -/
import Derived.Test.YtebaiioejagfoaaGreatDoorV22
import Derived.Test.YtebaiioejagfoaaGreatDoorTa
import Derived.Test.YtebaiioejagfoaaGreatDoorV40
/- impl.StoreLacks and spec.StoreLacks: what the index tells and the store has not. -/
namespace Go.Proofs.YtebaiioejagfoaaGreatDoor
open Go
set_option linter.unusedVariables false
set_option linter.unusedSimpArgs false
set_option maxHeartbeats 4000000
set_option maxRecDepth 100000
def hasM (s : List TPkg) (m : TMeta) : Prop := ∃ p ∈ s, metaOf p = m
instance (s : List TPkg) (m : TMeta) : Decidable (hasM s m) := by unfold hasM; infer_instance
def lacksL (s : List TPkg) (l : List TMeta) : List TMeta := l.filter fun m => decide (¬ hasM s m)
def lacks (t : TTrust) (s : List TPkg) : List TMeta := if trustOk t = true ∧ storeOk s = true then lacksL s t.index.metas else []
theorem lacksL_len (s : List TPkg) (l : List TMeta) : (lacksL s l).length ≤ l.length := List.length_filter_le _ _
theorem lacksL_in {s : List TPkg} {l : List TMeta} {i : Nat} (hi : i < l.length) (h : hasM s (nth l i)) : lacksL s (l.take (i + 1)) = lacksL s (l.take i) := by
  unfold lacksL
  rw [take_nth hi, List.filter_append]
  simp [h]
theorem lacksL_out {s : List TPkg} {l : List TMeta} {i : Nat} (hi : i < l.length) (h : ¬ hasM s (nth l i)) : lacksL s (l.take (i + 1)) = lacksL s (l.take i) ++ [nth l i] := by
  unfold lacksL
  rw [take_nth hi, List.filter_append]
  simp [h]
theorem store_one {s : List TPkg} (hs : storeOk s = true) {i j : Nat} (hi : i < s.length) (hj : j < s.length) (h1 : (nth s i).name = (nth s j).name) (h2 : (nth s i).ver = (nth s j).ver) : i = j := by
  by_cases h3 : i < j
  · have := store_grow hs j i h3 hj
    unfold pless at this; omega
  · by_cases h4 : j < i
    · have := store_grow hs i j h4 hi
      unfold pless at this; omega
    · omega
theorem has_iff {s : List TPkg} (hs : storeOk s = true) {m : TMeta} {z : Int} (hz : (z = -1 ∧ ∀ j, j < s.length → ¬ ((nth s j).name = m.name ∧ (nth s j).ver = m.ver)) ∨ (0 ≤ z ∧ z < s.length ∧ (nth s z.toNat).name = m.name ∧ (nth s z.toNat).ver = m.ver)) :
    hasM s m ↔ 0 ≤ z ∧ sumOf (pkgText (nth s z.toNat)) = m.sum := by
  constructor
  · rintro ⟨p, hp, rfl⟩
    obtain ⟨j, hj, rfl⟩ := mem_nth hp
    rcases hz with ⟨-, h1⟩ | ⟨h1, h2, h3, h4⟩
    · exact absurd ⟨rfl, rfl⟩ (h1 j hj)
    · obtain rfl : z.toNat = j := store_one hs (by omega) hj h3 h4
      exact ⟨h1, rfl⟩
  · rintro ⟨h0, h5⟩
    rcases hz with ⟨h1, -⟩ | ⟨h1, h2, h3, h4⟩
    · omega
    · exact ⟨_, nth_mem (l := s) (k := z.toNat) (by omega), TMeta.eq3 ⟨h3, h4, h5⟩⟩
theorem PE58 (n : Nat) (x0 x1 : SV) (os : List SO) : callF prg2 (n + 1) 58 [x0, x1] os = X58 (callF prg2 n) (n + 1) os.length x0 x1 os := by kernel_rfl
theorem PU58 {Q : SV → List SO → Prop} {x0 x1 : SV} {os : List SO} {nl : Nat} (hnl : os.length = nl) (h : Ev (fun n => B58 (callF prg2 n) (n + 1) nl x0 x1 os) Q) : Ev (fun n => callF prg2 n 58 [x0, x1] os) Q := by subst hnl; exact ev_fun (fun n => (PE58 n _ _ _).trans (X58_s _ _ _ _ _ _)) h
theorem PE94 (n : Nat) (x0 x1 : SV) (os : List SO) : callF prg2 (n + 1) 94 [x0, x1] os = X94 (callF prg2 n) (n + 1) os.length x0 x1 os := by kernel_rfl
theorem PUL94_2 {nl c : Nat} {Q : SV → List SO → Prop} {x0 x1 x7 x8 : SV} {os : List SO} (h : Ev (fun n => LB94_2 (callF prg2 n) (n + 1) nl (n + 1 - (c + 1)) x0 x1 x7 x8 os) Q) : Ev (fun n => L94_2 (callF prg2 n) (n + 1) nl (n + 1 - c) x0 x1 x7 x8 os) Q := ev_loop (L := fun n m => L94_2 (callF prg2 n) (n + 1) nl m x0 x1 x7 x8 os) (fun n m => L94_2_s _ _ _ _ _ _ _ _ _) h
theorem PU94 {Q : SV → List SO → Prop} {x0 x1 : SV} {os : List SO} {nl : Nat} (hnl : os.length = nl) (h : Ev (fun n => B94 (callF prg2 n) (n + 1) nl x0 x1 os) Q) : Ev (fun n => callF prg2 n 94 [x0, x1] os) Q := by subst hnl; exact ev_fun (fun n => (PE94 n _ _ _).trans (X94_s _ _ _ _ _ _)) h
theorem PVL94_2 {nl : Nat} {Q : SV → List SO → Prop} {x0 x1 x7 x8 : SV} {os : List SO} (h : Ev (fun n => LB94_2 (callF prg2 n) (n + 1) nl (n + 1 - 1) x0 x1 x7 x8 os) Q) : Ev (fun n => L94_2 (callF prg2 n) (n + 1) nl (n + 1) x0 x1 x7 x8 os) Q := PUL94_2 (c := 0) h
theorem PE57 (n : Nat) (x0 x1 : SV) (os : List SO) : callF prg2 (n + 1) 57 [x0, x1] os = X57 (callF prg2 n) (n + 1) os.length x0 x1 os := by kernel_rfl
theorem PU57 {Q : SV → List SO → Prop} {x0 x1 : SV} {os : List SO} {nl : Nat} (hnl : os.length = nl) (h : Ev (fun n => B57 (callF prg2 n) (n + 1) nl x0 x1 os) Q) : Ev (fun n => callF prg2 n 57 [x0, x1] os) Q := by subst hnl; exact ev_fun (fun n => (PE57 n _ _ _).trans (X57_s _ _ _ _ _ _)) h
theorem PE19 (n : Nat) (x0 x1 : SV) (os : List SO) : callF prg2 (n + 1) 19 [x0, x1] os = X19 (callF prg2 n) (n + 1) os.length x0 x1 os := by kernel_rfl
theorem PUL19_5 {nl c : Nat} {Q : SV → List SO → Prop} {x1 x5 x18 x19 x20 : SV} {os : List SO} (h : Ev (fun n => gcB nl [x1, x5, x18, x19, x20] os fun xs os => G19_5 (callF prg2 n) (n + 1) nl (n + 1 - (c + 1)) xs os) Q) : Ev (fun n => L19_5 (callF prg2 n) (n + 1) nl (n + 1 - c) x1 x5 x18 x19 x20 os) Q := ev_loop (L := fun n m => L19_5 (callF prg2 n) (n + 1) nl m x1 x5 x18 x19 x20 os) (fun n m => L19_5_s _ _ _ _ _ _ _ _ _ _) h
theorem PUG19_5 {nl : Nat} {Q : SV → List SO → Prop} (m5 : Nat → Nat) {x1 x5 x18 x19 x20 : SV} {os : List SO} (h : Ev (fun n => GB19_5 (callF prg2 n) (n + 1) nl (m5 n) x1 x5 x18 x19 x20 os) Q) : Ev (fun n => G19_5 (callF prg2 n) (n + 1) nl (m5 n) [x1, x5, x18, x19, x20] os) Q := ev_eq (fun n => G19_5_s _ _ _ _ _ _ _ _ _ _) h
theorem PUJ19_9 {nl : Nat} {Q : SV → List SO → Prop} {m5 : Nat → Nat} {x1 x5 x18 x19 x20 : SV} {os : List SO} (h : Ev (fun n => JB19_9 (callF prg2 n) (n + 1) nl (m5 n) x1 x5 x18 x19 x20 os) Q) : Ev (fun n => J19_9 (callF prg2 n) (n + 1) nl (m5 n) x1 x5 x18 x19 x20 os) Q := ev_eq (fun n => J19_9_s _ _ _ _ _ _ _ _ _ _) h
theorem PU19 {Q : SV → List SO → Prop} {x0 x1 : SV} {os : List SO} {nl : Nat} (hnl : os.length = nl) (h : Ev (fun n => B19 (callF prg2 n) (n + 1) nl x0 x1 os) Q) : Ev (fun n => callF prg2 n 19 [x0, x1] os) Q := by subst hnl; exact ev_fun (fun n => (PE19 n _ _ _).trans (X19_s _ _ _ _ _ _)) h
theorem PVL19_5 {nl : Nat} {Q : SV → List SO → Prop} {x1 x5 x18 x19 x20 : SV} {os : List SO} (h : Ev (fun n => gcB nl [x1, x5, x18, x19, x20] os fun xs os => G19_5 (callF prg2 n) (n + 1) nl (n + 1 - 1) xs os) Q) : Ev (fun n => L19_5 (callF prg2 n) (n + 1) nl (n + 1) x1 x5 x18 x19 x20 os) Q := PUL19_5 (c := 0) h
theorem s_isMeta (p : TPkg) (h1 : p.files.length ≤ 2000000) (h2 : p.deps.length ≤ 2000000) (a b c : Int) : Ex (fun m => callF prg2 m 58 [ePkg p, .ptr 0 0] [.box [iI a, iI b, iI c]]) (bB (decide (metaOf p = ⟨a, b, c⟩))) [.box [iI a, iI b, iI c]] := by
  refine ev_is.1 ?_
  (refine PU58 (nl := 1) rfl ?_; unfold B58)
  repeat' (first | ((with_reducible refine eB ?_); first | ((with_reducible refine ev_eql ?_ ?_) <;> intro h <;> try (exfalso; omega)) | ((with_reducible first | refine ev_eql3 ?_ ?_ ?_ | refine ev_neq3 ?_ ?_ ?_ | refine ev_eql2 ?_ ?_ ?_ | refine ev_neq2 ?_ ?_ ?_); (· rfl); all_goals intro h) | refine ev_bd rfl ?_ | refine ev_bd0 rfl ?_) | ((with_reducible refine eC ?_); first | ((refine ev_call (s_metaOfN p h1 h2) rfl rfl ?_ rfl ?_); (focus first | exact .inl rfl | exact .inr rfl | (refine .inr ?_; simp [flagC, ownF, hasSl3, hasSl1, SO.hasSl, List.all_map, flatSV, SV.cells, Function.comp_def]; done)))) | ((with_reducible refine eO ?_); first | refine ev_bd rfl ?_ | (refine ev_bdB rfl ?_ ?_ <;> intro h <;> try (exfalso; simp_all; done)) | refine ev_bd0 rfl ?_ | (refine ev_ldm rfl ?_ rfl ?_; (focus omega)) | (refine ev_ldmB rfl ?_ rfl ?_ ?_; (focus omega); (all_goals intro h))) | ((with_reducible refine eD ?_); first | refine ev_bd rfl ?_ | refine ev_bd0 rfl ?_) | ((with_reducible refine ev_dchk ?_ ?_); · intro _; rfl) | refine ev_ret rfl ?_)
  · exact ⟨congrArg bB (Eq.symm (decide_eq_true (TMeta.eq3 h))), rfl⟩
  · exact ⟨congrArg bB (Eq.symm (decide_eq_false fun e => h (by rw [e]; exact ⟨rfl, rfl, rfl⟩))), rfl⟩
theorem s_IxMeta_L (s : List TPkg) (hs : s.length ≤ 2000000) (hp0 : PL s) (a b d : Int) : ∀ i, i ≤ s.length → (∀ j, j < i → ¬ metaOf (nth s j) = ⟨a, b, d⟩) → ∀ (k : Int) (c : Nat), k = i →
    Ev (fun n => L94_2 (callF prg2 n) (n + 1) 1 (n + 1 - c) (.sl 4 (s.map ePkg)) (.fn 58 [.ptr 0 0]) (iI s.length) (iI k) [.box [iI a, iI b, iI d]]) (fun y os => ∃ z : Int, y = iI z ∧ os = [.box [iI a, iI b, iI d]] ∧ (0 ≤ z ↔ hasM s ⟨a, b, d⟩)) := by
  refine up_ind ?_
  intro i hi ih hp k c hk
  subst hk
  (refine PUL94_2 ?_; unfold LB94_2)
  repeat' (first | ((with_reducible refine eB ?_); first | ((with_reducible refine ev_lss ?_ ?_) <;> intro h <;> try (exfalso; omega)) | ((with_reducible refine ev_add ?_ ?_); · omega) | refine ev_bd rfl ?_ | refine ev_bd0 rfl ?_) | ((with_reducible refine eI ?_); first | ((with_reducible refine ev_idxn ?_ ?_ ?_); (· rfl); · omega) | (refine ev_idxon rfl rfl ?_ ?_; (· first | omega | (simp only [List.length_cons, List.length_nil, List.length_map, List.length_append]; omega))) | (refine ev_idxfn rfl rfl ?_ ?_; (focus omega)) | ((with_reducible refine ev_idx ?_ ?_ ?_); (· rfl); · omega) | (refine ev_idxo rfl rfl ?_ ?_; (· first | omega | (simp only [List.length_cons, List.length_nil, List.length_map, List.length_append]; omega))) | (refine ev_idxf rfl rfl ?_ ?_; (focus omega)) | refine ev_bd rfl ?_ | refine ev_bd0 rfl ?_) | ((with_reducible refine eC ?_); first | ((refine ev_callD (s_isMeta (nth s i) (hp0 i).1 (hp0 i).2 a b d) rfl rfl ?_ rfl rfl ?_ ?_); (focus first | exact .inl rfl | exact .inr rfl | (refine .inr ?_; simp [flagC, ownF, hasSl3, hasSl1, SO.hasSl, List.all_map, flatSV, SV.cells, Function.comp_def]; done)); (all_goals (intro h)); (all_goals (try (exfalso; first | omega | exact h rfl | exact h ⟨rfl, rfl, rfl⟩))))) | (with_reducible refine ev_callee ?_) | ((with_reducible refine eK ?_); first | (with_reducible first | refine ev_ct ?_ | refine ev_cf ?_) | ((with_reducible refine ev_cond ?_ ?_) <;> intro h)) | ((with_reducible refine eO ?_); first | refine ev_bd rfl ?_ | (refine ev_bdB rfl ?_ ?_ <;> intro h <;> try (exfalso; simp_all; done)) | refine ev_bd0 rfl ?_ | (refine ev_ldm rfl ?_ rfl ?_; (focus omega)) | (refine ev_ldmB rfl ?_ rfl ?_ ?_; (focus omega); (all_goals intro h))) | ((with_reducible refine eD ?_); first | refine ev_bd rfl ?_ | refine ev_bd0 rfl ?_) | ((with_reducible refine ih ?_ (all_step hp ?_) _ _ ?_) <;> (first | omega | assumption | (simp only [*, List.map_append, List.length_append, List.length_cons, List.length_nil, List.map_cons, List.map_nil]; done) | (simp_all; done) | (simp_all; omega))) | refine ev_ret rfl ?_)
  · exact ⟨_, rfl, rfl, ⟨fun _ => ⟨_, nth_mem (l := s) (k := i) (by omega), h⟩, fun _ => by omega⟩⟩
  · refine ⟨_, rfl, rfl, ⟨fun h9 => by omega, fun h9 => ?_⟩⟩
    obtain ⟨q, hq, h8⟩ := h9
    obtain ⟨j, hj, rfl⟩ := mem_nth hq
    exact absurd h8 (hp j (by omega))
theorem s_IxMeta (s : List TPkg) (hs : s.length ≤ 2000000) (hp0 : PL s) (a b d : Int) : ∃ z : Int, (0 ≤ z ↔ hasM s ⟨a, b, d⟩) ∧ Ex (fun m => callF prg2 m 94 [.sl 4 (s.map ePkg), .fn 58 [.ptr 0 0]] [.box [iI a, iI b, iI d]]) (iI z) [.box [iI a, iI b, iI d]] := by
  have key : Ev (fun m => callF prg2 m 94 [.sl 4 (s.map ePkg), .fn 58 [.ptr 0 0]] [.box [iI a, iI b, iI d]]) (fun y os => ∃ z : Int, y = iI z ∧ os = [.box [iI a, iI b, iI d]] ∧ (0 ≤ z ↔ hasM s ⟨a, b, d⟩)) := by
    (refine PU94 (nl := 1) rfl ?_; unfold B94)
    repeat' (first | ((with_reducible refine eL ?_); first | ((with_reducible refine ev_lenm ?_ ?_); · rfl) | refine ev_lenom rfl rfl ?_ | refine ev_lenfm rfl rfl ?_ | refine ev_lenoc rfl rfl rfl ?_ | refine ev_lenc rfl rfl ?_ | refine ev_leno rfl rfl ?_ | refine ev_slen rfl ?_ | refine ev_bd rfl ?_ | refine ev_bd0 rfl ?_) | ((with_reducible refine eD ?_); first | refine ev_bd rfl ?_ | refine ev_bd0 rfl ?_) | ( exact s_IxMeta_L s hs hp0 a b d 0 (by omega) (fun j hj => by omega) 0 0 rfl) | refine ev_ret rfl ?_)
  obtain ⟨_, _, ⟨z, rfl, rfl, hz⟩, he⟩ := key
  exact ⟨z, hz, he⟩
theorem s_CtMeta (s : List TPkg) (hs : s.length ≤ 2000000) (hp0 : PL s) (a b d : Int) : Ex (fun m => callF prg2 m 57 [.sl 4 (s.map ePkg), .fn 58 [.ptr 0 0]] [.box [iI a, iI b, iI d]]) (bB (decide (hasM s ⟨a, b, d⟩))) [.box [iI a, iI b, iI d]] := by
  refine ev_is.1 ?_
  (refine PU57 (nl := 1) rfl ?_; unfold B57)
  repeat' (first | ((with_reducible refine eB ?_); first | ((with_reducible refine ev_geq ?_ ?_) <;> intro h <;> try (exfalso; omega)) | refine ev_bd rfl ?_ | refine ev_bd0 rfl ?_) | ((with_reducible refine eC ?_); first | ((refine ev_callN (s_IxMeta s hs hp0 a b d) rfl rfl ?_ (fun _ => rfl) ?_); (· first | exact .inl rfl | exact .inr (fun _ => rfl)); (first | (have q0 := z3; clear q0; intro z4 hz4) | (have q0 := z2; clear q0; intro z3 hz3) | (have q0 := z; clear q0; intro z2 hz2) | (intro z hz)))) | ((with_reducible refine eD ?_); first | refine ev_bd rfl ?_ | refine ev_bd0 rfl ?_) | refine ev_ret rfl ?_)
  all_goals exact ⟨congrArg bB (by simp [← hz]; omega), rfl⟩
theorem s_StoreLacksN_L (t : TTrust) (hT : TLen t) (s : List TPkg) (hs : s.length ≤ 2000000) (hp0 : PL s) : ∀ i, i ≤ t.index.metas.length → ∀ (L : List SV) (k : Int) (c : Nat), k = i → L = (lacksL s (t.index.metas.take i)).map eMeta →
    Ev (fun n => G19_5 (callF prg2 n) (n + 1) 0 (n + 1 - c) [.sl 4 (s.map ePkg), .osl 0, .sl 3 (t.index.metas.map eMeta), iI t.index.metas.length, iI k] [.arr false 3 L])
      (Is (.osl 0) [.arr false 3 ((lacksL s t.index.metas).map eMeta)]) := by
  have hTm := hT.m
  refine up_ind ?_
  intro i hi ih L k c hk hL
  subst hk
  have hLl : L.length ≤ 2000000 := by rw [hL]; have := lacksL_len s (t.index.metas.take i); simp only [List.length_map, List.length_take] at this ⊢; omega
  have hAl : (lacksL s (t.index.metas.take i)).length ≤ 2000000 := by rw [hL, List.length_map] at hLl; exact hLl
  subst hL
  (refine PUG19_5 _ ?_; unfold GB19_5)
  repeat' (first | ((with_reducible refine eB ?_); first | ((with_reducible refine ev_lss ?_ ?_) <;> intro h <;> try (exfalso; omega)) | ((with_reducible refine ev_add ?_ ?_); · omega) | refine ev_bd rfl ?_ | refine ev_bd0 rfl ?_) | ((with_reducible refine eI ?_); first | ((with_reducible refine ev_idxn ?_ ?_ ?_); (· rfl); · omega) | (refine ev_idxon rfl rfl ?_ ?_; (· first | omega | (simp only [List.length_cons, List.length_nil, List.length_map, List.length_append]; omega))) | (refine ev_idxfn rfl rfl ?_ ?_; (focus omega)) | ((with_reducible refine ev_idx ?_ ?_ ?_); (· rfl); · omega) | (refine ev_idxo rfl rfl ?_ ?_; (· first | omega | (simp only [List.length_cons, List.length_nil, List.length_map, List.length_append]; omega))) | (refine ev_idxf rfl rfl ?_ ?_; (focus omega)) | refine ev_bd rfl ?_ | refine ev_bd0 rfl ?_) | ((with_reducible refine eC ?_); first | ((refine ev_callD (s_CtMeta s hs hp0 _ _ _) rfl rfl ?_ rfl rfl ?_ ?_); (focus first | exact .inl rfl | exact .inr rfl | (refine .inr ?_; simp [flagC, ownF, hasSl3, hasSl1, SO.hasSl, List.all_map, flatSV, SV.cells, Function.comp_def]; done)); (all_goals (intro h)); (all_goals (try (exfalso; first | omega | exact h rfl | exact h ⟨rfl, rfl, rfl⟩))))) | ((with_reducible refine eA ?_); first | (refine ev_app rfl rfl rfl rfl rfl ?_ ?_; · first | decide | (simp only [List.length_append, List.length_cons, List.length_nil, List.length_map, List.length_take, List.length_drop]; omega))) | ((with_reducible refine eK ?_); first | (with_reducible first | refine ev_ct ?_ | refine ev_cf ?_) | ((with_reducible refine ev_cond ?_ ?_) <;> intro h)) | ((with_reducible refine eO ?_); first | refine ev_bd rfl ?_ | (refine ev_bdB rfl ?_ ?_ <;> intro h <;> try (exfalso; simp_all; done)) | refine ev_bd0 rfl ?_ | (refine ev_ldm rfl ?_ rfl ?_; (focus omega)) | (refine ev_ldmB rfl ?_ rfl ?_ ?_; (focus omega); (all_goals intro h)) | (refine ev_ldz rfl rfl rfl ?_ ?_ ?_; (· simp); (· first | omega | (simp only [List.length_cons, List.length_nil, List.length_map, List.length_append]; omega)); intro w)) | ((with_reducible refine eD ?_); first | refine ev_bd rfl ?_ | refine ev_bd0 rfl ?_) | ((with_reducible refine eH ?_); first | refine ev_gcB rfl ?_) | ((with_reducible refine PUJ19_9 ?_); (unfold JB19_9)) | (with_reducible first | refine PUL19_5 ?_ | refine PVL19_5 ?_) | ((with_reducible refine ih ?_ _ _ _ ?_ ?_) <;> (first | omega | assumption | ((first | (rw [lacksL_in (by omega) h]; done) | (rw [lacksL_out (by omega) h, List.map_append]; rfl))) | (simp only [*, List.map_append, List.length_append, List.length_cons, List.length_nil, List.map_cons, List.map_nil]; done) | (simp_all; done) | (simp_all; omega))) | refine ev_ret rfl ?_)
  all_goals first
    | exact ⟨rfl, by rw [List.take_of_length_le (by omega)]⟩
    | trace_state
theorem s_StoreLacksN (t : TTrust) (hT : TLen t) (s : List TPkg) (hs : s.length ≤ 2000000) (hp0 : PL s) : Ex (fun m => callF prg2 m 19 [aTrust t, .sl 4 (s.map ePkg)] []) (.osl 0) [.arr false 3 ((lacks t s).map eMeta)] := by
  refine ev_is.1 ?_
  (refine PU19 (nl := 0) rfl ?_; unfold B19)
  repeat' (first | ((with_reducible refine eG ?_); first | (with_reducible first | refine ev_gtt ?_ | refine ev_gff ?_ | refine ev_gtf ?_ | refine ev_gft ?_ | refine ev_gu ?_) | refine ev_bd rfl ?_ | refine ev_bd0 rfl ?_ | ((with_reducible refine ev_gB ?_ ?_) <;> intro h)) | ((with_reducible refine eL ?_); first | ((with_reducible refine ev_lenm ?_ ?_); · rfl) | refine ev_lenom rfl rfl ?_ | refine ev_lenfm rfl rfl ?_ | refine ev_lenoc rfl rfl rfl ?_ | refine ev_lenc rfl rfl ?_ | refine ev_leno rfl rfl ?_ | refine ev_slen rfl ?_ | refine ev_bd rfl ?_ | refine ev_bd0 rfl ?_) | ((with_reducible refine eC ?_); first | ((refine ev_callB (lift (s_TrustOkI t hT) rfl) rfl rfl ?_ rfl rfl ?_ ?_); (focus first | exact .inl rfl | exact .inr rfl | (refine .inr ?_; simp [flagC, ownF, hasSl3, hasSl1, SO.hasSl, List.all_map, flatSV, SV.cells, Function.comp_def]; done)); (all_goals (intro h)); (all_goals (try (exfalso; simp_all; done)))) | ((refine ev_callB (lift (s_StoreOkI s hs hp0) rfl) rfl rfl ?_ rfl rfl ?_ ?_); (focus first | exact .inl rfl | exact .inr rfl | (refine .inr ?_; simp [flagC, ownF, hasSl3, hasSl1, SO.hasSl, List.all_map, flatSV, SV.cells, Function.comp_def]; done)); (all_goals (intro h)); (all_goals (try (exfalso; simp_all; done))))) | ((with_reducible refine eK ?_); first | (with_reducible first | refine ev_ct ?_ | refine ev_cf ?_) | ((with_reducible refine ev_cond ?_ ?_) <;> intro h)) | ((with_reducible refine eO ?_); first | refine ev_bd rfl ?_ | (refine ev_bdB rfl ?_ ?_ <;> intro h <;> try (exfalso; simp_all; done)) | refine ev_bd0 rfl ?_ | (refine ev_ldm rfl ?_ rfl ?_; (focus omega)) | (refine ev_ldmB rfl ?_ rfl ?_ ?_; (focus omega); (all_goals intro h))) | ((with_reducible refine eD ?_); first | refine ev_bd rfl ?_ | refine ev_bd0 rfl ?_ | ((with_reducible refine ev_pickB ?_ ?_) <;> intro h)) | ((with_reducible refine eH ?_); first | refine ev_gcB rfl ?_) | (with_reducible first | refine PUL19_5 ?_ | refine PVL19_5 ?_) | ( with_reducible refine Ev.mono (s_StoreLacksN_L t hT s hs hp0 0 (by omega) _ 0 _ rfl (by simp [lacksL])) ?_) | refine ev_ret rfl ?_)
  · intro x os h9
    unfold lacks
    rw [if_pos ⟨by assumption, by assumption⟩]
    exact h9
  all_goals exact ⟨rfl, by simp [lacks, *]⟩
theorem s_StoreLacksS_L (t : TTrust) (hT : TLen t) (s : List TPkg) (hs : s.length ≤ 2000000) (hp0 : PL s) (hok : storeOk s = true) : ∀ i, i ≤ t.index.metas.length → ∀ (L : List SV) (k : Int) (c : Nat), k = i → L = (lacksL s (t.index.metas.take i)).map eMeta →
    Ev (fun n => G16_5 (callF prg n) (n + 1) 0 (n + 1 - c) [.sl 4 (s.map ePkg), .ptr 0 0, .osl 1, iI k] [.box [iI t.root.num, .sl 1 (t.root.keys.map iI), iI t.root.need, bB t.has, iI t.index.num, iI t.index.til, .sl 3 (t.index.metas.map eMeta)], .arr false 3 L])
      (Is (.osl 0) [.arr false 3 ((lacksL s t.index.metas).map eMeta)]) := by
  have hTm := hT.m
  refine up_ind ?_
  intro i hi ih L k c hk hL
  subst hk
  have hLl : L.length ≤ 2000000 := by rw [hL]; have := lacksL_len s (t.index.metas.take i); simp only [List.length_map, List.length_take] at this ⊢; omega
  have hAl : (lacksL s (t.index.metas.take i)).length ≤ 2000000 := by rw [hL, List.length_map] at hLl; exact hLl
  subst hL
  (refine UG16_5 _ ?_; unfold GB16_5)
  repeat' (first | ((with_reducible refine eG ?_); first | (with_reducible first | refine ev_gtt ?_ | refine ev_gff ?_ | refine ev_gtf ?_ | refine ev_gft ?_ | refine ev_gu ?_) | refine ev_bd rfl ?_ | refine ev_bd0 rfl ?_ | ((with_reducible refine ev_gB ?_ ?_) <;> intro h)) | ((with_reducible refine eB ?_); first | ((with_reducible first | refine ev_lss ?_ ?_ | refine ev_neq ?_ ?_) <;> intro h <;> try (exfalso; omega)) | ((with_reducible refine ev_add ?_ ?_); · omega) | refine ev_bd rfl ?_ | refine ev_bd0 rfl ?_) | ((with_reducible refine eL ?_); first | ((with_reducible refine ev_lenm ?_ ?_); · rfl) | refine ev_lenom rfl rfl ?_ | refine ev_lenfm rfl rfl ?_ | refine ev_lenoc rfl rfl rfl ?_ | refine ev_lenc rfl rfl ?_ | refine ev_leno rfl rfl ?_ | refine ev_slen rfl ?_ | refine ev_bd rfl ?_ | refine ev_bd0 rfl ?_) | ((with_reducible refine eI ?_); first | ((with_reducible refine ev_idxn ?_ ?_ ?_); (· rfl); · omega) | (refine ev_idxon rfl rfl ?_ ?_; (· first | omega | (simp only [List.length_cons, List.length_nil, List.length_map, List.length_append]; omega))) | (refine ev_idxfn rfl rfl ?_ ?_; (focus omega)) | ((with_reducible refine ev_idx ?_ ?_ ?_); (· rfl); · omega) | (refine ev_idxo rfl rfl ?_ ?_; (· first | omega | (simp only [List.length_cons, List.length_nil, List.length_map, List.length_append]; omega))) | (refine ev_idxf rfl rfl ?_ ?_; (focus omega)) | refine ev_bd rfl ?_ | refine ev_bd0 rfl ?_) | ((with_reducible refine eC ?_); first | ((refine ev_callN (s_l12Find s hs _ _) rfl rfl ?_ (fun _ => rfl) ?_); (· first | exact .inl rfl | exact .inr (fun _ => rfl)); (first | (have q0 := z3; clear q0; intro z4 hz4) | (have q0 := z2; clear q0; intro z3 hz3) | (have q0 := z; clear q0; intro z2 hz2) | (intro z hz))) | ((refine ev_call (s_PkgTextS _ _ _ _ (hp0 _).1 (hp0 _).2) rfl rfl ?_ rfl ?_); (focus first | exact .inl rfl | exact .inr rfl | (refine .inr ?_; simp [flagC, ownF, hasSl3, hasSl1, SO.hasSl, List.all_map, flatSV, SV.cells, Function.comp_def]; done))) | ((refine ev_call (s_SumOfS (pkgText (nth s z.toNat)) (Nat.le_trans (pkgText_len _) (by decide))) rfl rfl ?_ rfl ?_); (focus first | exact .inl rfl | exact .inr rfl | (refine .inr ?_; simp [flagC, ownF, hasSl3, hasSl1, SO.hasSl, List.all_map, flatSV, SV.cells, Function.comp_def]; done)))) | ((with_reducible refine eA ?_); first | (refine ev_app rfl rfl rfl rfl rfl ?_ ?_; · first | decide | (simp only [List.length_append, List.length_cons, List.length_nil, List.length_map, List.length_take, List.length_drop]; omega))) | ((with_reducible refine eK ?_); first | (with_reducible first | refine ev_ct ?_ | refine ev_cf ?_) | ((with_reducible refine ev_cond ?_ ?_) <;> intro h)) | ((with_reducible refine eO ?_); first | refine ev_bd rfl ?_ | (refine ev_bdB rfl ?_ ?_ <;> intro h <;> try (exfalso; simp_all; done)) | refine ev_bd0 rfl ?_ | (refine ev_ldm rfl ?_ rfl ?_; (focus omega)) | (refine ev_ldmB rfl ?_ rfl ?_ ?_; (focus omega); (all_goals intro h)) | (refine ev_ldz rfl rfl rfl ?_ ?_ ?_; (· simp); (· first | omega | (simp only [List.length_cons, List.length_nil, List.length_map, List.length_append]; omega)); intro w)) | ((with_reducible refine eD ?_); first | refine ev_bd rfl ?_ | refine ev_bd0 rfl ?_ | ((with_reducible refine ev_pickB ?_ ?_) <;> intro h)) | ((with_reducible refine ev_dchk ?_ ?_); · intro _; rfl) | ((with_reducible refine eH ?_); first | refine ev_gcB rfl ?_) | ((with_reducible refine UJ16_6 ?_); (unfold JB16_6)) | (with_reducible first | refine UL16_5 ?_ | refine VL16_5 ?_) | ((with_reducible refine ih ?_ _ _ _ ?_ ?_) <;> (first | omega | assumption | ((have h8 := has_iff hok (m := nth t.index.metas i) hz; first | (rw [lacksL_in (by omega) (h8.2 ⟨by omega, by omega⟩)]; done) | (rw [lacksL_out (by omega) (fun h9 => by have h7 := h8.1 h9; first | omega | exact absurd h7.2 (by assumption)), List.map_append]; rfl))) | (simp only [*, List.map_append, List.length_append, List.length_cons, List.length_nil, List.map_cons, List.map_nil]; done) | (simp_all; done) | (simp_all; omega))) | refine ev_ret rfl ?_)
  all_goals first
    | exact ⟨rfl, by rw [List.take_of_length_le (by omega)]⟩
    | trace_state
theorem s_StoreLacksS (t : TTrust) (hT : TLen t) (s : List TPkg) (hs : s.length ≤ 2000000) (hp0 : PL s) : Ex (fun m => callF prg m 16 [aTrust t, .sl 4 (s.map ePkg)] []) (.osl 0) [.arr false 3 ((lacks t s).map eMeta)] := by
  refine ev_is.1 ?_
  (refine U16 (nl := 0) rfl ?_; unfold B16)
  repeat' (first | ((with_reducible refine eG ?_); first | (with_reducible first | refine ev_gtt ?_ | refine ev_gff ?_ | refine ev_gtf ?_ | refine ev_gft ?_ | refine ev_gu ?_) | refine ev_bd rfl ?_ | refine ev_bd0 rfl ?_ | ((with_reducible refine ev_gB ?_ ?_) <;> intro h)) | ((with_reducible refine eC ?_); first | ((refine ev_callB (s_TrustOkS t hT) rfl rfl ?_ rfl rfl ?_ ?_); (focus first | exact .inl rfl | exact .inr rfl | (refine .inr ?_; simp [flagC, ownF, hasSl3, hasSl1, SO.hasSl, List.all_map, flatSV, SV.cells, Function.comp_def]; done)); (all_goals (intro h)); (all_goals (try (exfalso; simp_all; done)))) | ((refine ev_callB (s_StoreOkS s hs hp0) rfl rfl ?_ rfl rfl ?_ ?_); (focus first | exact .inl rfl | exact .inr rfl | (refine .inr ?_; simp [flagC, ownF, hasSl3, hasSl1, SO.hasSl, List.all_map, flatSV, SV.cells, Function.comp_def]; done)); (all_goals (intro h)); (all_goals (try (exfalso; simp_all; done))))) | ((with_reducible refine eK ?_); first | (with_reducible first | refine ev_ct ?_ | refine ev_cf ?_) | ((with_reducible refine ev_cond ?_ ?_) <;> intro h)) | ((with_reducible refine eO ?_); first | refine ev_bd rfl ?_ | (refine ev_bdB rfl ?_ ?_ <;> intro h <;> try (exfalso; simp_all; done)) | refine ev_bd0 rfl ?_ | (refine ev_ldm rfl ?_ rfl ?_; (focus omega)) | (refine ev_ldmB rfl ?_ rfl ?_ ?_; (focus omega); (all_goals intro h)) | (refine ev_ldz rfl rfl rfl ?_ ?_ ?_; (· simp); (· first | omega | (simp only [List.length_cons, List.length_nil, List.length_map, List.length_append]; omega)); intro w)) | ((with_reducible refine eD ?_); first | refine ev_bd rfl ?_ | refine ev_bd0 rfl ?_ | ((with_reducible refine ev_pickB ?_ ?_) <;> intro h)) | ((with_reducible refine eH ?_); first | refine ev_gcB rfl ?_) | (with_reducible first | refine UL16_5 ?_ | refine VL16_5 ?_) | ( with_reducible refine Ev.mono (s_StoreLacksS_L t hT s hs hp0 (by assumption) 0 (by omega) _ 0 _ rfl (by simp [lacksL])) ?_) | refine ev_ret rfl ?_)
  · intro x os h9
    unfold lacks
    rw [if_pos ⟨by assumption, by assumption⟩]
    exact h9
  all_goals exact ⟨rfl, by simp [lacks, *]⟩
end Go.Proofs.YtebaiioejagfoaaGreatDoor

/- What the draws of keys and roots give. -/
namespace Go.Proofs.YtebaiioejagfoaaGreatDoor
open Go
set_option linter.unusedVariables false
set_option maxHeartbeats 4000000
set_option linter.unusedSimpArgs false
end Go.Proofs.YtebaiioejagfoaaGreatDoor

/- Trust begins with a root. -/
namespace Go.Proofs.YtebaiioejagfoaaGreatDoor
open Go
set_option linter.unusedVariables false
set_option linter.unusedSimpArgs false
set_option maxHeartbeats 4000000
def zTrust : TTrust := ⟨⟨0, [], 0⟩, false, ⟨0, 0, []⟩⟩
def trustNew (r : TRoot) : TTrust × Bool := if rootOk r.num r.keys r.need = true then (⟨r, false, ⟨0, 0, []⟩⟩, true) else (zTrust, false)
def QTrust (p : TTrust × Bool) : SV → List SO → Prop := fun x os => ∃ t ok, p = (t, ok) ∧ x = .tup [rTrust t, bB ok] ∧ os = oTrust t
end Go.Proofs.YtebaiioejagfoaaGreatDoor

/- Keys among both; who has signed. -/
namespace Go.Proofs.YtebaiioejagfoaaGreatDoor
open Go
set_option linter.unusedVariables false
set_option linter.unusedSimpArgs false
set_option maxHeartbeats 4000000
def cnt (b : List Int) (v : Int) : Nat := (b.filter fun x => decide (v = x)).length
def both' (a b : List Int) : Nat := (a.filter fun x => decide (x ∈ b)).length
def pairs (a b : List Int) : Nat := (a.map (cnt b)).sum
def rootSigned (r : TRoot) (by_ : List Int) : Bool := rootOk r.num r.keys r.need && keysOk by_ && decide (r.need ≤ both' r.keys by_)
def rootNext (r s : TRoot) (by_ : List Int) : Bool := rootSigned r by_ && rootSigned s by_ && decide (s.num = r.num + 1)
def trustRoot (t : TTrust) (s : TRoot) (b : List Int) : TTrust × Bool :=
  if trustOk t = true then (if rootNext t.root s b = true then (⟨s, t.has, t.index⟩, true) else (t, false)) else (zTrust, false)
def trustIndex (t : TTrust) (x : TIndex) (b : List Int) (now : Int) : TTrust × Bool :=
  if trustOk t = true ∧ 0 ≤ now ∧ now ≤ 60 then
    (if indexOk x.num x.til x.metas = true ∧ rootSigned t.root b = true ∧ ¬ x.til < now ∧ ¬ (t.has = true ∧ x.num ≤ t.index.num) then (⟨t.root, true, x⟩, true) else (t, false))
  else (zTrust, false)
def TP (t : TTrust) (k m : SV) (os : List SO) : Prop :=
  (k = .osl 0 ∧ m = .osl 1 ∧ os = oTrust t) ∨ (k = .sl 1 (t.root.keys.map iI) ∧ m = .sl 3 (t.index.metas.map eMeta) ∧ os = []) ∨
  (k = .osl 0 ∧ m = .sl 3 (t.index.metas.map eMeta) ∧ os = [.arr false 1 (t.root.keys.map iI)]) ∨ (k = .sl 1 (t.root.keys.map iI) ∧ m = .osl 0 ∧ os = [.arr false 3 (t.index.metas.map eMeta)])
abbrev mTrust (t : TTrust) (k m : SV) : SV := .ag [iI t.root.num, k, iI t.root.need, bB t.has, iI t.index.num, iI t.index.til, m]
def QTrustM (p : TTrust × Bool) : SV → List SO → Prop := fun x os => ∃ t ok k m, p = (t, ok) ∧ x = .tup [mTrust t k m, bB ok] ∧ TP t k m os
end Go.Proofs.YtebaiioejagfoaaGreatDoor

/- The exact laws' own functions, over what indexes tell, roots, indexes, trust. -/
namespace Go.Proofs.YtebaiioejagfoaaGreatDoor
open Go
set_option linter.unusedVariables false
set_option linter.unusedSimpArgs false
set_option maxHeartbeats 4000000
theorem s_szMetaS (l : List TMeta) (k : Int) (hl : l.length ≤ 9223372036854775807) (hk : -1 ≤ k ∧ k ≤ 1048576) : Ex (fun m => callF prg m 84 [.sl 3 (l.map eMeta), iI k] []) (iI (left l.length k)) [] := by
  refine ev_is.1 ?_
  (refine U84 (nl := 0) rfl ?_; unfold B84)
  repeat' (first | ((with_reducible refine eB ?_); first | ((with_reducible refine ev_lss ?_ ?_) <;> intro h <;> try (exfalso; omega)) | ((with_reducible refine ev_sub ?_ ?_); · omega) | refine ev_bd rfl ?_ | refine ev_bd0 rfl ?_) | ((with_reducible refine eL ?_); first | ((with_reducible refine ev_lenm ?_ ?_); · rfl) | refine ev_lenom rfl rfl ?_ | refine ev_lenfm rfl rfl ?_ | refine ev_lenoc rfl rfl rfl ?_ | refine ev_lenc rfl rfl ?_ | refine ev_leno rfl rfl ?_ | refine ev_slen rfl ?_ | refine ev_bd rfl ?_ | refine ev_bd0 rfl ?_) | ((with_reducible refine eK ?_); first | (with_reducible first | refine ev_ct ?_ | refine ev_cf ?_) | ((with_reducible refine ev_cond ?_ ?_) <;> intro h)) | ((with_reducible refine eD ?_); first | refine ev_bd rfl ?_ | refine ev_bd0 rfl ?_) | refine ev_ret rfl ?_)
  all_goals exact ⟨congrArg iI (by unfold left; split <;> omega), rfl⟩
theorem s_toMeta (a b c : Int) : Ex (fun m => callF prg m 112 [.ag [iI a, iI b, iI c]] []) (.ag [iI a, iI b, iI c]) [] := by
  refine ev_is.1 ?_
  (refine U112 (nl := 0) rfl ?_; unfold B112)
  repeat' (first | ((with_reducible refine eO ?_); first | refine ev_bd rfl ?_ | (refine ev_bdB rfl ?_ ?_ <;> intro h <;> try (exfalso; simp_all; done)) | refine ev_bd0 rfl ?_ | (refine ev_ldm rfl ?_ rfl ?_; (focus omega)) | (refine ev_ldmB rfl ?_ rfl ?_ ?_; (focus omega); (all_goals intro h))) | ((with_reducible refine eD ?_); first | refine ev_bd rfl ?_ | refine ev_bd0 rfl ?_) | refine ev_ret rfl ?_)
  all_goals exact ⟨rfl, rfl⟩
theorem s_toMetaS_L (l : List TMeta) (hl : l.length ≤ 2000000) : ∀ i, i ≤ l.length → ∀ (w : List TMeta), w.length = l.length → (∀ j, j < i → nth w j = nth l j) → ∀ (k : Int) (c : Nat), k = i →
    Ev (fun n => L89_3 (callF prg n) (n + 1) 0 (n + 1 - c) (.sl 3 (l.map eMeta)) (.osl 1) (iI k) [.arr false 3 [], .arr false 3 (w.map eMeta)]) (Is (.osl 0) [.arr false 3 (l.map eMeta)]) := by
  refine up_ind ?_
  intro i hi ih w hw hp k c hk
  subst hk
  (refine UL89_3 ?_; unfold LB89_3)
  repeat' (first | ((with_reducible refine eB ?_); first | ((with_reducible refine ev_lss ?_ ?_) <;> intro h <;> try (exfalso; omega)) | ((with_reducible refine ev_add ?_ ?_); · omega) | refine ev_bd rfl ?_ | refine ev_bd0 rfl ?_) | ((with_reducible refine eL ?_); first | ((with_reducible refine ev_lenm ?_ ?_); · rfl) | refine ev_lenom rfl rfl ?_ | refine ev_lenfm rfl rfl ?_ | refine ev_lenoc rfl rfl rfl ?_ | refine ev_lenc rfl rfl ?_ | refine ev_leno rfl rfl ?_ | refine ev_slen rfl ?_ | refine ev_bd rfl ?_ | refine ev_bd0 rfl ?_) | ((with_reducible refine eI ?_); first | ((with_reducible refine ev_idxn ?_ ?_ ?_); (· rfl); · omega) | (refine ev_idxon rfl rfl ?_ ?_; (· first | omega | (simp only [List.length_cons, List.length_nil, List.length_map, List.length_append]; omega))) | (refine ev_idxfn rfl rfl ?_ ?_; (focus omega)) | ((with_reducible refine ev_idx ?_ ?_ ?_); (· rfl); · omega) | (refine ev_idxo rfl rfl ?_ ?_; (· first | omega | (simp only [List.length_cons, List.length_nil, List.length_map, List.length_append]; omega))) | (refine ev_idxf rfl rfl ?_ ?_; (focus omega)) | refine ev_bd rfl ?_ | refine ev_bd0 rfl ?_) | ((with_reducible refine eC ?_); first | ((refine ev_call (s_toMeta ..) rfl rfl ?_ rfl ?_); (focus first | exact .inl rfl | exact .inr rfl | (refine .inr ?_; simp [flagC, ownF, hasSl3, hasSl1, SO.hasSl, List.all_map, flatSV, SV.cells, Function.comp_def]; done)))) | ((with_reducible refine eK ?_); first | (with_reducible first | refine ev_ct ?_ | refine ev_cf ?_) | ((with_reducible refine ev_cond ?_ ?_) <;> intro h)) | ((with_reducible refine eO ?_); first | refine ev_bd rfl ?_ | (refine ev_bdB rfl ?_ ?_ <;> intro h <;> try (exfalso; simp_all; done)) | refine ev_bd0 rfl ?_ | (refine ev_ldm rfl ?_ rfl ?_; (focus omega)) | (refine ev_ldmB rfl ?_ rfl ?_ ?_; (focus omega); (all_goals intro h))) | ((with_reducible refine eD ?_); first | refine ev_bd rfl ?_ | refine ev_bd0 rfl ?_ | ( (refine ev_sto (f := eMeta) (a := nth l i) rfl rfl rfl rfl rfl rfl rfl rfl ?_ rfl ?_; (focus omega)))) | ((with_reducible refine ih ?_ _ ?_ ?_ _ _ ?_) <;> (first | omega | assumption | ((first | (rw [List.length_set]; exact hw) | (intro j hj; rw [nth_set']; split; (rename_i e; rw [e.1]); (rename_i e; exact hp j (by omega))))) | (simp only [*, List.map_append, List.length_append, List.length_cons, List.length_nil, List.map_cons, List.map_nil]; done) | (simp_all; done) | (simp_all; omega))) | refine ev_ret rfl ?_)
  all_goals (obtain rfl : w = l := eq_of_nth hw fun j hj => hp j (by omega))
  all_goals exact ⟨rfl, rfl⟩
theorem s_toMetaS (l : List TMeta) (hl : l.length ≤ 2000000) : Ex (fun m => callF prg m 89 [.sl 3 (l.map eMeta)] []) (.osl 0) [.arr false 3 (l.map eMeta)] := by
  refine ev_is.1 ?_
  (refine U89 (nl := 0) rfl ?_; unfold B89)
  repeat' (first | ((with_reducible refine eL ?_); first | ((with_reducible refine ev_lenm ?_ ?_); · rfl) | refine ev_lenom rfl rfl ?_ | refine ev_lenfm rfl rfl ?_ | refine ev_lenoc rfl rfl rfl ?_ | refine ev_lenc rfl rfl ?_ | refine ev_leno rfl rfl ?_ | refine ev_slen rfl ?_ | refine ev_bd rfl ?_ | refine ev_bd0 rfl ?_) | ((with_reducible refine eD ?_); first | refine ev_bd rfl ?_ | refine ev_bd0 rfl ?_ | ( (refine ev_mk (f := eMeta) (z := ⟨0, 0, 0⟩) rfl rfl rfl ?_ ?_; (focus (dsimp only; omega))))) | ( exact s_toMetaS_L l hl 0 (by omega) _ (by simp) (fun j hj => by omega) 0 0 rfl) | refine ev_ret rfl ?_)
theorem s_eqMeta (a b c a' b' c' : Int) : Ex (fun m => callF prg m 59 [.ag [iI a, iI b, iI c], .ag [iI a', iI b', iI c']] []) (bB (decide (a = a' ∧ b = b' ∧ c = c'))) [] := by
  refine ev_is.1 ?_
  (refine U59 (nl := 0) rfl ?_; unfold B59)
  repeat' (first | ((with_reducible refine eB ?_); first | ((with_reducible refine ev_neq ?_ ?_) <;> intro h <;> try (exfalso; omega)) | refine ev_bd rfl ?_ | refine ev_bd0 rfl ?_) | ((with_reducible refine eK ?_); first | (with_reducible first | refine ev_ct ?_ | refine ev_cf ?_) | ((with_reducible refine ev_cond ?_ ?_) <;> intro h)) | ((with_reducible refine eO ?_); first | refine ev_bd rfl ?_ | (refine ev_bdB rfl ?_ ?_ <;> intro h <;> try (exfalso; simp_all; done)) | refine ev_bd0 rfl ?_ | (refine ev_ldm rfl ?_ rfl ?_; (focus omega)) | (refine ev_ldmB rfl ?_ rfl ?_ ?_; (focus omega); (all_goals intro h))) | ((with_reducible refine eD ?_); first | refine ev_bd rfl ?_ | refine ev_bd0 rfl ?_) | refine ev_ret rfl ?_)
  all_goals (refine ⟨congrArg (fun b => SV.v (Value.bool b)) ?_, rfl⟩; first | (simp_all []; done) | (simp_all []; omega) | (simp [] at *; omega) | (simp []; omega) | grind [] | trace_state)
theorem s_eqMetaS_L (a b : List TMeta) (hl : a.length = b.length) (h47 : a.length ≤ 2000000) : ∀ i, i ≤ a.length → (∀ j, j < i → nth a j = nth b j) → ∀ (k : Int) (c : Nat), k = i →
    Ev (fun n => L20_4 (callF prg n) (n + 1) 0 (n + 1 - c) (.sl 3 (a.map eMeta)) (.sl 3 (b.map eMeta)) (iI k) []) (Is (bB (decide (a = b))) []) := by
  refine up_ind ?_
  intro i hi ih hp k c hk
  subst hk
  (refine UL20_4 ?_; unfold LB20_4)
  repeat' (first | ((with_reducible refine eB ?_); first | ((with_reducible refine ev_lss ?_ ?_) <;> intro h <;> try (exfalso; omega)) | ((with_reducible refine ev_add ?_ ?_); · omega) | refine ev_bd rfl ?_ | refine ev_bd0 rfl ?_) | ((with_reducible refine eL ?_); first | ((with_reducible refine ev_lenm ?_ ?_); · rfl) | refine ev_lenom rfl rfl ?_ | refine ev_lenfm rfl rfl ?_ | refine ev_lenoc rfl rfl rfl ?_ | refine ev_lenc rfl rfl ?_ | refine ev_leno rfl rfl ?_ | refine ev_slen rfl ?_ | refine ev_bd rfl ?_ | refine ev_bd0 rfl ?_) | ((with_reducible refine eI ?_); first | ((with_reducible refine ev_idxn ?_ ?_ ?_); (· rfl); · omega) | (refine ev_idxon rfl rfl ?_ ?_; (· first | omega | (simp only [List.length_cons, List.length_nil, List.length_map, List.length_append]; omega))) | (refine ev_idxfn rfl rfl ?_ ?_; (focus omega)) | ((with_reducible refine ev_idx ?_ ?_ ?_); (· rfl); · omega) | (refine ev_idxo rfl rfl ?_ ?_; (· first | omega | (simp only [List.length_cons, List.length_nil, List.length_map, List.length_append]; omega))) | (refine ev_idxf rfl rfl ?_ ?_; (focus omega)) | refine ev_bd rfl ?_ | refine ev_bd0 rfl ?_) | ((with_reducible refine eC ?_); first | ((refine ev_callD (s_eqMeta _ _ _ _ _ _) rfl rfl ?_ rfl rfl ?_ ?_); (focus first | exact .inl rfl | exact .inr rfl | (refine .inr ?_; simp [flagC, ownF, hasSl3, hasSl1, SO.hasSl, List.all_map, flatSV, SV.cells, Function.comp_def]; done)); (all_goals (intro h)); (all_goals (try (exfalso; first | omega | exact h rfl | exact h ⟨rfl, rfl, rfl⟩))))) | ((with_reducible refine eK ?_); first | (with_reducible first | refine ev_ct ?_ | refine ev_cf ?_) | ((with_reducible refine ev_cond ?_ ?_) <;> intro h)) | ((with_reducible refine eO ?_); first | refine ev_bd rfl ?_ | (refine ev_bdB rfl ?_ ?_ <;> intro h <;> try (exfalso; simp_all; done)) | refine ev_bd0 rfl ?_ | (refine ev_ldm rfl ?_ rfl ?_; (focus omega)) | (refine ev_ldmB rfl ?_ rfl ?_ ?_; (focus omega); (all_goals intro h))) | ((with_reducible refine eD ?_); first | refine ev_bd rfl ?_ | refine ev_bd0 rfl ?_) | ((with_reducible refine ih ?_ (all_step hp ?_) _ _ ?_) <;> (first | omega | assumption | ((exact TMeta.eq3 h)) | (simp only [*, List.map_append, List.length_append, List.length_cons, List.length_nil, List.map_cons, List.map_nil]; done) | (simp_all; done) | (simp_all; omega))) | refine ev_ret rfl ?_)
  · exact ⟨congrArg bB (Eq.symm (decide_eq_false fun e => h (by rw [e]; exact ⟨rfl, rfl, rfl⟩))), rfl⟩
  · exact ⟨congrArg bB (Eq.symm (decide_eq_true (eq_of_nth hl fun j hj => hp j (by omega)))), rfl⟩
theorem s_eqMetaS (a b : List TMeta) (h47 : a.length ≤ 2000000) : Ex (fun m => callF prg m 20 [.sl 3 (a.map eMeta), .sl 3 (b.map eMeta)] []) (bB (decide (a = b))) [] := by
  refine ev_is.1 ?_
  (refine U20 (nl := 0) rfl ?_; unfold B20)
  repeat' (first | ((with_reducible refine eB ?_); first | ((with_reducible refine ev_neq ?_ ?_) <;> intro h <;> try (exfalso; omega)) | refine ev_bd rfl ?_ | refine ev_bd0 rfl ?_) | ((with_reducible refine eL ?_); first | ((with_reducible refine ev_lenm ?_ ?_); · rfl) | refine ev_lenom rfl rfl ?_ | refine ev_lenfm rfl rfl ?_ | refine ev_lenoc rfl rfl rfl ?_ | refine ev_lenc rfl rfl ?_ | refine ev_leno rfl rfl ?_ | refine ev_slen rfl ?_ | refine ev_bd rfl ?_ | refine ev_bd0 rfl ?_) | ((with_reducible refine eK ?_); first | (with_reducible first | refine ev_ct ?_ | refine ev_cf ?_) | ((with_reducible refine ev_cond ?_ ?_) <;> intro h)) | ((with_reducible refine eD ?_); first | refine ev_bd rfl ?_ | refine ev_bd0 rfl ?_) | ( exact s_eqMetaS_L a b (by omega) h47 0 (by omega) (fun j hj => by omega) 0 0 rfl) | refine ev_ret rfl ?_)
  all_goals (refine ⟨congrArg bB (Eq.symm (decide_eq_false fun e => ?_)), rfl⟩; subst e; omega)
def markM (k : Int) (n : Nat) : List TMeta := (List.range n).map fun i : Nat => ⟨k + 3 * (i : Int), k + 3 * (i : Int) + 1, k + 3 * (i : Int) + 2⟩
theorem markM_len (k : Int) (n : Nat) : (markM k n).length = n := by simp [markM]
theorem markM_nth {k : Int} {n i : Nat} (h : i < n) : nth (markM k n) i = ⟨k + 3 * (i : Int), k + 3 * (i : Int) + 1, k + 3 * (i : Int) + 2⟩ := by
  unfold markM nth
  rw [List.getD_eq_getElem?_getD, List.getElem?_map, List.getElem?_range h]; rfl
theorem s_markMetaS_L (k0 : Int) (hk0 : 0 ≤ k0 ∧ k0 ≤ 100000000) (m : Nat) (hm : m ≤ 2000000) : ∀ i, i ≤ m → ∀ (w : List TMeta), w.length = m → (∀ j, j < i → nth w j = ⟨k0 + 3 * (j : Int), k0 + 3 * (j : Int) + 1, k0 + 3 * (j : Int) + 2⟩) → ∀ (q k : Int) (c : Nat), k = i → q = k0 + 3 * i →
    Ev (fun n => L25_2 (callF prg n) (n + 1) 1 (n + 1 - c) (.osl 0) (iI q) (iI k) [.arr true 3 (w.map eMeta)]) (Is (iI (k0 + 3 * m)) [.arr true 3 ((markM k0 m).map eMeta)]) := by
  refine up_ind ?_
  intro i hi ih w hw hp q k c hk hq
  subst hk
  have hset : i < m → ∀ a b : TMeta, ((w.set i a).set i b).length = m ∧ (∀ x, nth (w.set i x) i = x) := fun h a b => ⟨by rw [List.length_set, List.length_set]; exact hw, fun x => by rw [nth_set', if_pos ⟨rfl, by omega⟩]⟩
  have hfin : i < m → ∀ x : TMeta, x = ⟨k0 + 3 * (i : Int), k0 + 3 * (i : Int) + 1, k0 + 3 * (i : Int) + 2⟩ → ∀ a b : TMeta, (((w.set i a).set i b).set i x).length = m ∧ ∀ j, j < i + 1 → nth (((w.set i a).set i b).set i x) j = ⟨k0 + 3 * (j : Int), k0 + 3 * (j : Int) + 1, k0 + 3 * (j : Int) + 2⟩ := fun h x hx a b => by
    refine ⟨by rw [List.length_set, List.length_set, List.length_set]; exact hw, fun j hj => ?_⟩
    rw [List.set_set, List.set_set, nth_set']
    split
    · rename_i e; rw [← e.1]; exact hx
    · exact hp j (by omega)
  by_cases hi2 : i < m
  · have e1 : ∀ x, nth (w.set i x) i = x := fun x => by rw [nth_set', if_pos ⟨rfl, by omega⟩]
    have e2 : ∀ x y, nth ((w.set i x).set i y) i = y := fun x y => by rw [nth_set', if_pos ⟨rfl, by rw [List.length_set]; omega⟩]
    have f := hfin hi2 ⟨q, q + 1, q + 1 + 1⟩ (by rw [hq]; simp; omega) ⟨q, (nth w i).ver, (nth w i).sum⟩ ⟨q, q + 1, (nth w i).sum⟩
    (refine UL25_2 ?_; unfold LB25_2)
    repeat' (first | ((with_reducible refine eB ?_); first | ((with_reducible refine ev_lss ?_ ?_) <;> intro h <;> try (exfalso; omega)) | ((with_reducible refine ev_add ?_ ?_); · omega) | refine ev_bd rfl ?_ | refine ev_bd0 rfl ?_) | ((with_reducible refine eL ?_); first | ((with_reducible refine ev_lenm ?_ ?_); · rfl) | refine ev_lenom rfl rfl ?_ | refine ev_lenfm rfl rfl ?_ | refine ev_lenoc rfl rfl rfl ?_ | refine ev_lenc rfl rfl ?_ | refine ev_leno rfl rfl ?_ | refine ev_slen rfl ?_ | refine ev_bd rfl ?_ | refine ev_bd0 rfl ?_) | ((with_reducible refine eI ?_); first | ((with_reducible refine ev_idxn ?_ ?_ ?_); (· rfl); · omega) | (refine ev_idxon rfl rfl ?_ ?_; (· first | omega | (simp only [List.length_cons, List.length_nil, List.length_map, List.length_append]; omega))) | (refine ev_idxfn rfl rfl ?_ ?_; (focus omega)) | ((with_reducible refine ev_idx ?_ ?_ ?_); (· rfl); · omega) | ( (refine ev_idxon rfl rfl ?_ ?_; (focus (simp only [List.length_map, List.length_set]; omega)))) | (refine ev_idxo rfl rfl ?_ ?_; (· first | omega | (simp only [List.length_cons, List.length_nil, List.length_map, List.length_append]; omega))) | (refine ev_idxf rfl rfl ?_ ?_; (focus omega)) | refine ev_bd rfl ?_ | refine ev_bd0 rfl ?_) | ((with_reducible refine eK ?_); first | (with_reducible first | refine ev_ct ?_ | refine ev_cf ?_) | ((with_reducible refine ev_cond ?_ ?_) <;> intro h)) | ((with_reducible refine eD ?_); first | refine ev_bd rfl ?_ | refine ev_bd0 rfl ?_ | ( (refine ev_sto (f := eMeta) (a := ⟨q, (nth w i).ver, (nth w i).sum⟩) rfl rfl rfl rfl rfl rfl rfl rfl ?_ rfl ?_; (focus omega))) | ( (refine ev_sto (f := eMeta) (a := ⟨q, q + 1, (nth w i).sum⟩) rfl rfl rfl rfl rfl rfl rfl (by rw [e1]; rfl) ?_ rfl ?_; (focus (rw [List.length_set]; omega)))) | ( (refine ev_sto (f := eMeta) (a := ⟨q, q + 1, q + 1 + 1⟩) rfl rfl rfl rfl rfl rfl rfl (by rw [e2]; rfl) ?_ rfl ?_; (focus (rw [List.length_set, List.length_set]; omega))))) | ((with_reducible refine ih ?_ _ f.1 f.2 _ _ _ ?_ ?_) <;> (first | omega | assumption | (simp only [*, List.map_append, List.length_append, List.length_cons, List.length_nil, List.map_cons, List.map_nil]; done) | (simp_all; done) | (simp_all; omega))) | refine ev_ret rfl ?_)
  · obtain rfl : w = markM k0 m := eq_of_nth (by rw [hw, markM_len]) fun j hj => by rw [markM_nth (by omega)]; exact hp j (by omega)
    (refine UL25_2 ?_; unfold LB25_2)
    repeat' (first | ((with_reducible refine eB ?_); first | ((with_reducible refine ev_lss ?_ ?_) <;> intro h <;> try (exfalso; omega)) | ((with_reducible refine ev_add ?_ ?_); · omega) | refine ev_bd rfl ?_ | refine ev_bd0 rfl ?_) | ((with_reducible refine eL ?_); first | ((with_reducible refine ev_lenm ?_ ?_); · rfl) | refine ev_lenom rfl rfl ?_ | refine ev_lenfm rfl rfl ?_ | refine ev_lenoc rfl rfl rfl ?_ | refine ev_lenc rfl rfl ?_ | refine ev_leno rfl rfl ?_ | refine ev_slen rfl ?_ | refine ev_bd rfl ?_ | refine ev_bd0 rfl ?_) | ((with_reducible refine eI ?_); first | ((with_reducible refine ev_idxn ?_ ?_ ?_); (· rfl); · omega) | (refine ev_idxon rfl rfl ?_ ?_; (· first | omega | (simp only [List.length_cons, List.length_nil, List.length_map, List.length_append]; omega))) | (refine ev_idxfn rfl rfl ?_ ?_; (focus omega)) | ((with_reducible refine ev_idx ?_ ?_ ?_); (· rfl); · omega) | (refine ev_idxo rfl rfl ?_ ?_; (· first | omega | (simp only [List.length_cons, List.length_nil, List.length_map, List.length_append]; omega))) | (refine ev_idxf rfl rfl ?_ ?_; (focus omega)) | refine ev_bd rfl ?_ | refine ev_bd0 rfl ?_) | ((with_reducible refine eK ?_); first | (with_reducible first | refine ev_ct ?_ | refine ev_cf ?_) | ((with_reducible refine ev_cond ?_ ?_) <;> intro h)) | ((with_reducible refine eD ?_); first | refine ev_bd rfl ?_ | refine ev_bd0 rfl ?_) | refine ev_ret rfl ?_)
    all_goals exact ⟨congrArg iI (by omega), rfl⟩
theorem s_markMetaS (l : List TMeta) (k0 : Int) (hk0 : 0 ≤ k0 ∧ k0 ≤ 100000000) (hl : l.length ≤ 2000000) : Ex (fun m => callF prg m 25 [.osl 0, iI k0] [.arr true 3 (l.map eMeta)]) (iI (k0 + 3 * l.length)) [.arr true 3 ((markM k0 l.length).map eMeta)] := by
  refine ev_is.1 ?_
  (refine U25 (nl := 1) rfl ?_; unfold B25)
  exact s_markMetaS_L k0 hk0 l.length hl 0 (by omega) l rfl (fun j hj => by omega) _ 0 0 rfl (by simp)
theorem s_heldMetaS_L (k0 : Int) (hk0 : 0 ≤ k0 ∧ k0 ≤ 100000000) (m : Nat) (hm : m ≤ 2000000) (w : List TMeta) (hw : w = markM k0 m) : ∀ i, i ≤ m → ∀ (q k : Int) (c : Nat), k = i → q = k0 + 3 * i →
    Ev (fun n => L26_2 (callF prg n) (n + 1) 0 (n + 1 - c) (.sl 3 (w.map eMeta)) (iI q) (iI k) []) (Is (iI (k0 + 3 * m)) []) := by
  have hwl : w.length = m := by rw [hw, markM_len]
  refine up_ind ?_
  intro i hi ih q k c hk hq
  subst hk
  have hn : i < m → (nth w i).name = k0 + 3 * i ∧ (nth w i).ver = k0 + 3 * i + 1 ∧ (nth w i).sum = k0 + 3 * i + 2 := fun h => by rw [hw, markM_nth h]; exact ⟨rfl, rfl, rfl⟩
  (refine UL26_2 ?_; unfold LB26_2)
  repeat' (first | ((with_reducible refine eB ?_); first | ((with_reducible first | refine ev_lss ?_ ?_ | refine ev_neq ?_ ?_) <;> intro h <;> try (exfalso; omega)) | ((with_reducible refine ev_add ?_ ?_); · omega) | refine ev_bd rfl ?_ | refine ev_bd0 rfl ?_) | ((with_reducible refine eL ?_); first | ((with_reducible refine ev_lenm ?_ ?_); · rfl) | refine ev_lenom rfl rfl ?_ | refine ev_lenfm rfl rfl ?_ | refine ev_lenoc rfl rfl rfl ?_ | refine ev_lenc rfl rfl ?_ | refine ev_leno rfl rfl ?_ | refine ev_slen rfl ?_ | refine ev_bd rfl ?_ | refine ev_bd0 rfl ?_) | ((with_reducible refine eI ?_); first | ((with_reducible refine ev_idxn ?_ ?_ ?_); (· rfl); · omega) | (refine ev_idxon rfl rfl ?_ ?_; (· first | omega | (simp only [List.length_cons, List.length_nil, List.length_map, List.length_append]; omega))) | (refine ev_idxfn rfl rfl ?_ ?_; (focus omega)) | ((with_reducible refine ev_idx ?_ ?_ ?_); (· rfl); · omega) | (refine ev_idxo rfl rfl ?_ ?_; (· first | omega | (simp only [List.length_cons, List.length_nil, List.length_map, List.length_append]; omega))) | (refine ev_idxf rfl rfl ?_ ?_; (focus omega)) | refine ev_bd rfl ?_ | refine ev_bd0 rfl ?_) | ((with_reducible refine eK ?_); first | (with_reducible first | refine ev_ct ?_ | refine ev_cf ?_) | ((with_reducible refine ev_cond ?_ ?_) <;> intro h)) | ((with_reducible refine eO ?_); first | refine ev_bd rfl ?_ | (refine ev_bdB rfl ?_ ?_ <;> intro h <;> try (exfalso; simp_all; done)) | refine ev_bd0 rfl ?_ | (refine ev_ldm rfl ?_ rfl ?_; (focus omega)) | (refine ev_ldmB rfl ?_ rfl ?_ ?_; (focus omega); (all_goals intro h))) | ((with_reducible refine eD ?_); first | refine ev_bd rfl ?_ | refine ev_bd0 rfl ?_) | ((with_reducible refine ih ?_ _ _ _ ?_ ?_) <;> (first | omega | assumption | (simp only [*, List.map_append, List.length_append, List.length_cons, List.length_nil, List.map_cons, List.map_nil]; done) | (simp_all; done) | (simp_all; omega))) | refine ev_ret rfl ?_)
  all_goals first
    | (exfalso; have := hn (by omega); omega)
    | exact ⟨congrArg iI (by omega), rfl⟩
    | trace_state
theorem s_heldMetaS (k0 : Int) (hk0 : 0 ≤ k0 ∧ k0 ≤ 100000000) (m : Nat) (hm : m ≤ 2000000) : Ex (fun n => callF prg n 26 [.sl 3 ((markM k0 m).map eMeta), iI k0] []) (iI (k0 + 3 * m)) [] := by
  refine ev_is.1 ?_
  (refine U26 (nl := 0) rfl ?_; unfold B26)
  exact s_heldMetaS_L k0 hk0 m hm _ rfl 0 (by omega) _ 0 0 rfl (by simp)
theorem s_szRoot (r : TRoot) (k : Int) (hl : okRoot r) (hk : -1 ≤ k ∧ k ≤ 1048576) : Ex (fun m => callF prg m 47 [aRoot r, iI k] []) (iI (left r.keys.length k)) [] := by
  unfold okRoot at hl
  refine ev_is.1 ?_
  (refine U47 (nl := 0) rfl ?_; unfold B47)
  repeat' (first | ((with_reducible refine eB ?_); first | ((with_reducible refine ev_lss ?_ ?_) <;> intro h <;> try (exfalso; omega)) | refine ev_bd rfl ?_ | refine ev_bd0 rfl ?_) | ((with_reducible refine eC ?_); first | ((refine ev_call (s_szIntS r.keys _ hl hk) rfl rfl ?_ rfl ?_); (focus first | exact .inl rfl | exact .inr rfl | (refine .inr ?_; simp [flagC, ownF, hasSl3, hasSl1, SO.hasSl, List.all_map, flatSV, SV.cells, Function.comp_def]; done)))) | ((with_reducible refine eK ?_); first | (with_reducible first | refine ev_ct ?_ | refine ev_cf ?_) | ((with_reducible refine ev_cond ?_ ?_) <;> intro h)) | ((with_reducible refine eO ?_); first | refine ev_bd rfl ?_ | (refine ev_bdB rfl ?_ ?_ <;> intro h <;> try (exfalso; simp_all; done)) | refine ev_bd0 rfl ?_ | (refine ev_ldm rfl ?_ rfl ?_; (focus omega)) | (refine ev_ldmB rfl ?_ rfl ?_ ?_; (focus omega); (all_goals intro h))) | ((with_reducible refine eD ?_); first | refine ev_bd rfl ?_ | refine ev_bd0 rfl ?_) | refine ev_ret rfl ?_)
  all_goals exact ⟨congrArg iI (by unfold left at *; split at * <;> omega), rfl⟩
theorem s_toRoot (r : TRoot) (hl : r.keys.length ≤ 2000000) : Ex (fun m => callF prg m 53 [aRoot r] []) (.ag [iI r.num, .osl 0, iI r.need]) [.arr false 1 (r.keys.map iI)] := by
  refine ev_is.1 ?_
  (refine U53 (nl := 0) rfl ?_; unfold B53)
  repeat' (first | ((with_reducible refine eC ?_); first | ((refine ev_call (s_toIntS r.keys hl) rfl rfl ?_ rfl ?_); (focus first | exact .inl rfl | exact .inr rfl | (refine .inr ?_; simp [flagC, ownF, hasSl3, hasSl1, SO.hasSl, List.all_map, flatSV, SV.cells, Function.comp_def]; done)))) | ((with_reducible refine eO ?_); first | refine ev_bd rfl ?_ | (refine ev_bdB rfl ?_ ?_ <;> intro h <;> try (exfalso; simp_all; done)) | refine ev_bd0 rfl ?_ | (refine ev_ldm rfl ?_ rfl ?_; (focus omega)) | (refine ev_ldmB rfl ?_ rfl ?_ ?_; (focus omega); (all_goals intro h))) | ((with_reducible refine eD ?_); first | refine ev_bd rfl ?_ | refine ev_bd0 rfl ?_) | refine ev_ret rfl ?_)
  all_goals exact ⟨rfl, rfl⟩
theorem s_eqRoot (a b : TRoot) (hl : a.keys.length ≤ 2000000) : Ex (fun m => callF prg m 60 [aRoot a, aRoot b] []) (bB (decide (a = b))) [] := by
  refine ev_is.1 ?_
  cases a; cases b
  (refine U60 (nl := 0) rfl ?_; unfold B60)
  repeat' (first | ((with_reducible refine eB ?_); first | ((with_reducible refine ev_neq ?_ ?_) <;> intro h <;> try (exfalso; omega)) | refine ev_bd rfl ?_ | refine ev_bd0 rfl ?_) | ((with_reducible refine eC ?_); first | ((refine ev_callD (s_eqIntS _ _ hl) rfl rfl ?_ rfl rfl ?_ ?_); (focus first | exact .inl rfl | exact .inr rfl | (refine .inr ?_; simp [flagC, ownF, hasSl3, hasSl1, SO.hasSl, List.all_map, flatSV, SV.cells, Function.comp_def]; done)); (all_goals (intro h)); (all_goals (try (exfalso; first | omega | exact h rfl | exact h ⟨rfl, rfl, rfl⟩))))) | ((with_reducible refine eK ?_); first | (with_reducible first | refine ev_ct ?_ | refine ev_cf ?_) | ((with_reducible refine ev_cond ?_ ?_) <;> intro h)) | ((with_reducible refine eO ?_); first | refine ev_bd rfl ?_ | (refine ev_bdB rfl ?_ ?_ <;> intro h <;> try (exfalso; simp_all; done)) | refine ev_bd0 rfl ?_ | (refine ev_ldm rfl ?_ rfl ?_; (focus omega)) | (refine ev_ldmB rfl ?_ rfl ?_ ?_; (focus omega); (all_goals intro h))) | ((with_reducible refine eD ?_); first | refine ev_bd rfl ?_ | refine ev_bd0 rfl ?_) | refine ev_ret rfl ?_)
  all_goals (refine ⟨congrArg (fun b => SV.v (Value.bool b)) ?_, rfl⟩; first | (simp_all []; done) | (simp_all []; omega) | (simp [] at *; omega) | (simp []; omega) | grind [] | trace_state)
theorem s_markRoot (r : TRoot) (k0 : Int) (hk0 : 0 ≤ k0 ∧ k0 ≤ 100000000) (hl : r.keys.length ≤ 2000000) : Ex (fun m => callF prg m 63 [.ag [iI r.num, .osl 0, iI r.need], iI k0] [.arr true 1 (r.keys.map iI)]) (iI (k0 + r.keys.length)) [.arr true 1 ((markI k0 r.keys.length).map iI)] := by
  refine ev_is.1 ?_
  (refine U63 (nl := 1) rfl ?_; unfold B63)
  repeat' (first | ((with_reducible refine eC ?_); first | ((refine ev_call (s_markIntS r.keys k0 (by omega) hl) rfl rfl ?_ rfl ?_); (focus first | exact .inl rfl | exact .inr rfl | (refine .inr ?_; simp [flagC, ownF, hasSl3, hasSl1, SO.hasSl, List.all_map, flatSV, SV.cells, Function.comp_def]; done)))) | ((with_reducible refine eO ?_); first | refine ev_bd rfl ?_ | (refine ev_bdB rfl ?_ ?_ <;> intro h <;> try (exfalso; simp_all; done)) | refine ev_bd0 rfl ?_ | (refine ev_ldm rfl ?_ rfl ?_; (focus omega)) | (refine ev_ldmB rfl ?_ rfl ?_ ?_; (focus omega); (all_goals intro h))) | ((with_reducible refine eD ?_); first | refine ev_bd rfl ?_ | refine ev_bd0 rfl ?_) | refine ev_ret rfl ?_)
  all_goals exact ⟨rfl, rfl⟩
theorem s_szIndex (x : TIndex) (k : Int) (hl : okIndex x) (hk : -1 ≤ k ∧ k ≤ 1048576) : Ex (fun m => callF prg m 48 [aIndex x, iI k] []) (iI (left x.metas.length k)) [] := by
  unfold okIndex at hl
  refine ev_is.1 ?_
  (refine U48 (nl := 0) rfl ?_; unfold B48)
  repeat' (first | ((with_reducible refine eB ?_); first | ((with_reducible refine ev_lss ?_ ?_) <;> intro h <;> try (exfalso; omega)) | refine ev_bd rfl ?_ | refine ev_bd0 rfl ?_) | ((with_reducible refine eC ?_); first | ((refine ev_call (s_szMetaS x.metas _ hl hk) rfl rfl ?_ rfl ?_); (focus first | exact .inl rfl | exact .inr rfl | (refine .inr ?_; simp [flagC, ownF, hasSl3, hasSl1, SO.hasSl, List.all_map, flatSV, SV.cells, Function.comp_def]; done)))) | ((with_reducible refine eK ?_); first | (with_reducible first | refine ev_ct ?_ | refine ev_cf ?_) | ((with_reducible refine ev_cond ?_ ?_) <;> intro h)) | ((with_reducible refine eO ?_); first | refine ev_bd rfl ?_ | (refine ev_bdB rfl ?_ ?_ <;> intro h <;> try (exfalso; simp_all; done)) | refine ev_bd0 rfl ?_ | (refine ev_ldm rfl ?_ rfl ?_; (focus omega)) | (refine ev_ldmB rfl ?_ rfl ?_ ?_; (focus omega); (all_goals intro h))) | ((with_reducible refine eD ?_); first | refine ev_bd rfl ?_ | refine ev_bd0 rfl ?_) | refine ev_ret rfl ?_)
  all_goals exact ⟨congrArg iI (by unfold left at *; split at * <;> omega), rfl⟩
theorem s_toIndex (x : TIndex) (hl : x.metas.length ≤ 2000000) : Ex (fun m => callF prg m 54 [aIndex x] []) (.ag [iI x.num, iI x.til, .osl 0]) [.arr false 3 (x.metas.map eMeta)] := by
  refine ev_is.1 ?_
  (refine U54 (nl := 0) rfl ?_; unfold B54)
  repeat' (first | ((with_reducible refine eC ?_); first | ((refine ev_call (s_toMetaS x.metas hl) rfl rfl ?_ rfl ?_); (focus first | exact .inl rfl | exact .inr rfl | (refine .inr ?_; simp [flagC, ownF, hasSl3, hasSl1, SO.hasSl, List.all_map, flatSV, SV.cells, Function.comp_def]; done)))) | ((with_reducible refine eO ?_); first | refine ev_bd rfl ?_ | (refine ev_bdB rfl ?_ ?_ <;> intro h <;> try (exfalso; simp_all; done)) | refine ev_bd0 rfl ?_ | (refine ev_ldm rfl ?_ rfl ?_; (focus omega)) | (refine ev_ldmB rfl ?_ rfl ?_ ?_; (focus omega); (all_goals intro h))) | ((with_reducible refine eD ?_); first | refine ev_bd rfl ?_ | refine ev_bd0 rfl ?_) | refine ev_ret rfl ?_)
  all_goals exact ⟨rfl, rfl⟩
theorem s_eqIndex (a b : TIndex) (hl : a.metas.length ≤ 2000000) : Ex (fun m => callF prg m 61 [aIndex a, aIndex b] []) (bB (decide (a = b))) [] := by
  refine ev_is.1 ?_
  cases a; cases b
  (refine U61 (nl := 0) rfl ?_; unfold B61)
  repeat' (first | ((with_reducible refine eB ?_); first | ((with_reducible refine ev_neq ?_ ?_) <;> intro h <;> try (exfalso; omega)) | refine ev_bd rfl ?_ | refine ev_bd0 rfl ?_) | ((with_reducible refine eC ?_); first | ((refine ev_callD (s_eqMetaS _ _ hl) rfl rfl ?_ rfl rfl ?_ ?_); (focus first | exact .inl rfl | exact .inr rfl | (refine .inr ?_; simp [flagC, ownF, hasSl3, hasSl1, SO.hasSl, List.all_map, flatSV, SV.cells, Function.comp_def]; done)); (all_goals (intro h)); (all_goals (try (exfalso; first | omega | exact h rfl | exact h ⟨rfl, rfl, rfl⟩))))) | ((with_reducible refine eK ?_); first | (with_reducible first | refine ev_ct ?_ | refine ev_cf ?_) | ((with_reducible refine ev_cond ?_ ?_) <;> intro h)) | ((with_reducible refine eO ?_); first | refine ev_bd rfl ?_ | (refine ev_bdB rfl ?_ ?_ <;> intro h <;> try (exfalso; simp_all; done)) | refine ev_bd0 rfl ?_ | (refine ev_ldm rfl ?_ rfl ?_; (focus omega)) | (refine ev_ldmB rfl ?_ rfl ?_ ?_; (focus omega); (all_goals intro h))) | ((with_reducible refine eD ?_); first | refine ev_bd rfl ?_ | refine ev_bd0 rfl ?_) | refine ev_ret rfl ?_)
  all_goals (refine ⟨congrArg (fun b => SV.v (Value.bool b)) ?_, rfl⟩; first | (simp_all []; done) | (simp_all []; omega) | (simp [] at *; omega) | (simp []; omega) | grind [] | trace_state)
theorem s_markIndex (x : TIndex) (k0 : Int) (hk0 : 0 ≤ k0 ∧ k0 ≤ 100000000) (hl : x.metas.length ≤ 2000000) : Ex (fun m => callF prg m 64 [.ag [iI x.num, iI x.til, .osl 0], iI k0] [.arr true 3 (x.metas.map eMeta)]) (iI (k0 + 3 * x.metas.length)) [.arr true 3 ((markM k0 x.metas.length).map eMeta)] := by
  refine ev_is.1 ?_
  (refine U64 (nl := 1) rfl ?_; unfold B64)
  repeat' (first | ((with_reducible refine eC ?_); first | ((refine ev_call (s_markMetaS x.metas k0 hk0 hl) rfl rfl ?_ rfl ?_); (focus first | exact .inl rfl | exact .inr rfl | (refine .inr ?_; simp [flagC, ownF, hasSl3, hasSl1, SO.hasSl, List.all_map, flatSV, SV.cells, Function.comp_def]; done)))) | ((with_reducible refine eO ?_); first | refine ev_bd rfl ?_ | (refine ev_bdB rfl ?_ ?_ <;> intro h <;> try (exfalso; simp_all; done)) | refine ev_bd0 rfl ?_ | (refine ev_ldm rfl ?_ rfl ?_; (focus omega)) | (refine ev_ldmB rfl ?_ rfl ?_ ?_; (focus omega); (all_goals intro h))) | ((with_reducible refine eD ?_); first | refine ev_bd rfl ?_ | refine ev_bd0 rfl ?_) | refine ev_ret rfl ?_)
  all_goals exact ⟨rfl, rfl⟩
theorem s_szTrust (t : TTrust) (k : Int) (hl : okTrust t) (hk : -1 ≤ k ∧ k ≤ 1048576) : ∃ z : Int, (z ≤ k ∧ -1 ≤ z ∧ (0 ≤ z → t.root.keys.length ≤ 1048576 ∧ t.index.metas.length ≤ 1048576)) ∧ Ex (fun m => callF prg m 14 [aTrust t, iI k] []) (iI z) [] := by
  obtain ⟨h1, h2⟩ := hl
  have key : Ev (fun m => callF prg m 14 [aTrust t, iI k] []) (fun x os => ∃ z : Int, x = iI z ∧ os = [] ∧ (z ≤ k ∧ -1 ≤ z ∧ (0 ≤ z → t.root.keys.length ≤ 1048576 ∧ t.index.metas.length ≤ 1048576))) := by
    have hle : ∀ n k, -1 ≤ k → left n k ≤ k ∧ -1 ≤ left n k := fun n k h => by unfold left; split <;> omega
    have hz := hle t.root.keys.length k hk.1
    have hz2 := hle t.index.metas.length (left t.root.keys.length k) hz.2
    (refine U14 (nl := 0) rfl ?_; unfold B14)
    repeat' (first | ((with_reducible refine eB ?_); first | ((with_reducible refine ev_lss ?_ ?_) <;> intro h <;> try (exfalso; omega)) | refine ev_bd rfl ?_ | refine ev_bd0 rfl ?_) | ((with_reducible refine eC ?_); first | ((refine ev_call (s_szRoot t.root k h1 hk) rfl rfl ?_ rfl ?_); (focus first | exact .inl rfl | exact .inr rfl | (refine .inr ?_; simp [flagC, ownF, hasSl3, hasSl1, SO.hasSl, List.all_map, flatSV, SV.cells, Function.comp_def]; done))) | ((refine ev_call (s_szIndex t.index _ h2 ⟨hz.2, by omega⟩) rfl rfl ?_ rfl ?_); (focus first | exact .inl rfl | exact .inr rfl | (refine .inr ?_; simp [flagC, ownF, hasSl3, hasSl1, SO.hasSl, List.all_map, flatSV, SV.cells, Function.comp_def]; done)))) | ((with_reducible refine eK ?_); first | (with_reducible first | refine ev_ct ?_ | refine ev_cf ?_) | ((with_reducible refine ev_cond ?_ ?_) <;> intro h)) | ((with_reducible refine eO ?_); first | refine ev_bd rfl ?_ | (refine ev_bdB rfl ?_ ?_ <;> intro h <;> try (exfalso; simp_all; done)) | refine ev_bd0 rfl ?_ | (refine ev_ldm rfl ?_ rfl ?_; (focus omega)) | (refine ev_ldmB rfl ?_ rfl ?_ ?_; (focus omega); (all_goals intro h))) | ((with_reducible refine eD ?_); first | refine ev_bd rfl ?_ | refine ev_bd0 rfl ?_) | refine ev_ret rfl ?_)
    all_goals first
      | exact ⟨-1, rfl, rfl, by omega, by omega, fun h => by omega⟩
      | exact ⟨_, rfl, rfl, by omega, by omega, fun h => by have h3 := left_ok (by assumption); have h4 := left_ok (by assumption : ¬ left t.root.keys.length k < 0); omega⟩
      | trace_state
  obtain ⟨x, os, ⟨z, rfl, rfl, hz⟩, he⟩ := key
  exact ⟨z, hz, he⟩
theorem s_toTrust (t : TTrust) (h : TLen t) : Ex (fun m => callF prg m 17 [aTrust t] []) (rTrust t) (oTrust t) := by
  refine ev_is.1 ?_
  obtain ⟨r, has, x⟩ := t
  have h1 := h.k
  have h2 := h.m
  (refine U17 (nl := 0) rfl ?_; unfold B17)
  cases has
  all_goals repeat' (first | ((with_reducible refine eC ?_); first | ((refine ev_call (s_toRoot r h1) rfl rfl ?_ rfl ?_); (focus first | exact .inl rfl | exact .inr rfl | (refine .inr ?_; simp [flagC, ownF, hasSl3, hasSl1, SO.hasSl, List.all_map, flatSV, SV.cells, Function.comp_def]; done))) | ((refine ev_call (s_toIndex x h2) rfl rfl ?_ rfl ?_); (focus first | exact .inl rfl | exact .inr rfl | (refine .inr ?_; simp [flagC, ownF, hasSl3, hasSl1, SO.hasSl, List.all_map, flatSV, SV.cells, Function.comp_def]; done)))) | ((with_reducible refine eO ?_); first | refine ev_bd rfl ?_ | (refine ev_bdB rfl ?_ ?_ <;> intro h <;> try (exfalso; simp_all; done)) | refine ev_bd0 rfl ?_ | (refine ev_ldm rfl ?_ rfl ?_; (focus omega)) | (refine ev_ldmB rfl ?_ rfl ?_ ?_; (focus omega); (all_goals intro h))) | ((with_reducible refine eD ?_); first | refine ev_bd rfl ?_ | refine ev_bd0 rfl ?_) | refine ev_ret rfl ?_)
  all_goals exact ⟨rfl, rfl⟩
theorem s_eqTrust (a b : TTrust) (h : TLen a) : Ex (fun m => callF prg m 21 [aTrust a, aTrust b] []) (bB (decide (a = b))) [] := by
  refine ev_is.1 ?_
  have h1 := h.k
  have h2 := h.m
  obtain ⟨r, has, x⟩ := a
  obtain ⟨r', has', x'⟩ := b
  (refine U21 (nl := 0) rfl ?_; unfold B21)
  cases has <;> cases has'
  all_goals repeat' (first | ((with_reducible refine eB ?_); first | ((with_reducible refine ev_neq ?_ ?_) <;> intro h <;> try (exfalso; omega)) | refine ev_bd rfl ?_ | refine ev_bd0 rfl ?_) | ((with_reducible refine eC ?_); first | ((refine ev_callD (s_eqRoot r r' h1) rfl rfl ?_ rfl rfl ?_ ?_); (focus first | exact .inl rfl | exact .inr rfl | (refine .inr ?_; simp [flagC, ownF, hasSl3, hasSl1, SO.hasSl, List.all_map, flatSV, SV.cells, Function.comp_def]; done)); (all_goals (intro h)); (all_goals (try (exfalso; first | omega | exact h rfl | exact h ⟨rfl, rfl, rfl⟩)))) | ((refine ev_callD (s_eqIndex x x' h2) rfl rfl ?_ rfl rfl ?_ ?_); (focus first | exact .inl rfl | exact .inr rfl | (refine .inr ?_; simp [flagC, ownF, hasSl3, hasSl1, SO.hasSl, List.all_map, flatSV, SV.cells, Function.comp_def]; done)); (all_goals (intro h)); (all_goals (try (exfalso; first | omega | exact h rfl | exact h ⟨rfl, rfl, rfl⟩))))) | ((with_reducible refine eK ?_); first | (with_reducible first | refine ev_ct ?_ | refine ev_cf ?_) | ((with_reducible refine ev_cond ?_ ?_) <;> intro h)) | ((with_reducible refine eO ?_); first | refine ev_bd rfl ?_ | (refine ev_bdB rfl ?_ ?_ <;> intro h <;> try (exfalso; simp_all; done)) | refine ev_bd0 rfl ?_ | (refine ev_ldm rfl ?_ rfl ?_; (focus omega)) | (refine ev_ldmB rfl ?_ rfl ?_ ?_; (focus omega); (all_goals intro h))) | ((with_reducible refine eD ?_); first | refine ev_bd rfl ?_ | refine ev_bd0 rfl ?_) | refine ev_ret rfl ?_)
  all_goals (refine ⟨congrArg (fun b => SV.v (Value.bool b)) ?_, rfl⟩; first | (simp_all []; done) | (simp_all []; omega) | (simp [] at *; omega) | (simp []; omega) | grind [] | trace_state)
theorem s_markTrust (t : TTrust) (h : TLen t) : Ex (fun m => callF prg m 23 [rTrust t, iI 1] [.arr true 1 (t.root.keys.map iI), .arr true 3 (t.index.metas.map eMeta)]) (iI (1 + t.root.keys.length + 3 * t.index.metas.length)) [.arr true 1 ((markI 1 t.root.keys.length).map iI), .arr true 3 ((markM (1 + t.root.keys.length) t.index.metas.length).map eMeta)] := by
  have h1 := h.k
  have h2 := h.m
  refine ev_is.1 ?_
  (refine U23 (nl := 2) rfl ?_; unfold B23)
  repeat' (first | ((with_reducible refine eC ?_); first | ((refine ev_call (s_markRoot t.root 1 (by omega) h1) rfl rfl ?_ rfl ?_); (focus first | exact .inl rfl | exact .inr rfl | (refine .inr ?_; simp [flagC, ownF, hasSl3, hasSl1, SO.hasSl, List.all_map, flatSV, SV.cells, Function.comp_def]; done))) | ((refine ev_call (s_markIndex t.index _ (by omega) h2) rfl rfl ?_ rfl ?_); (focus first | exact .inl rfl | exact .inr rfl | (refine .inr ?_; simp [flagC, ownF, hasSl3, hasSl1, SO.hasSl, List.all_map, flatSV, SV.cells, Function.comp_def]; done)))) | ((with_reducible refine eO ?_); first | refine ev_bd rfl ?_ | (refine ev_bdB rfl ?_ ?_ <;> intro h <;> try (exfalso; simp_all; done)) | refine ev_bd0 rfl ?_ | (refine ev_ldm rfl ?_ rfl ?_; (focus omega)) | (refine ev_ldmB rfl ?_ rfl ?_ ?_; (focus omega); (all_goals intro h))) | ((with_reducible refine eD ?_); first | refine ev_bd rfl ?_ | refine ev_bd0 rfl ?_) | refine ev_ret rfl ?_)
  all_goals exact ⟨rfl, rfl⟩
end Go.Proofs.YtebaiioejagfoaaGreatDoor
