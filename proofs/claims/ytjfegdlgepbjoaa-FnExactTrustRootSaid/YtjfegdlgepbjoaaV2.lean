/- What the draws of keys and roots give. -/
import Derived.Test.YtjfegdlgepbjoaaV1
namespace Go.Proofs.Ytjfegdlgepbjoaa
open Go
set_option linter.unusedVariables false
set_option maxHeartbeats 4000000
set_option linter.unusedSimpArgs false

/-- Drawn keys. -/
def QKeys (b : List Int) (p : Int) : SV → List SO → Prop := fun x os => ∃ (ks : List Int) (q : Int), x = .osl 1 ∧ os = [rd b q, .arr false 1 (ks.map iI)] ∧ ks.length ≤ 7 ∧ p ≤ q ∧ q ≤ p + 10

theorem s_l71Keys_L {b : List Int} (hb : RdOK b) {p0 : Int} (hp0 : 0 ≤ p0 ∧ p0 < 900000000) : ∀ i : Nat, i ≤ 6 → ∀ (p k : Int) (ks : List Int) (L : List SV) (c : Nat), k = i + 1 → L = ks.map iI → ks.length ≤ i → p0 ≤ p → p ≤ p0 + i →
    Ev (fun n => G69_3 (callF prg n) (n + 1) 1 (n + 1 - c) [.ptr 0 0, .osl 1, iI k] [rd b p, .arr false 1 L]) (QKeys b p0) := by
  refine up_ind ?_
  intro i hi ih p k ks L c hk' hL hk h1 h2
  have hLl : L.length = ks.length := by rw [hL, List.length_map]
  refine UG69_3 _ ?_
  unfold GB69_3
  repeat' (first | ((with_reducible refine eB ?_); first | ((with_reducible first | refine ev_leq ?_ ?_ | refine ev_eql ?_ ?_) <;> intro h <;> try (exfalso; omega)) | ((with_reducible refine ev_add ?_ ?_); · omega) | refine ev_bd rfl ?_ | refine ev_bd0 rfl ?_) | ((with_reducible refine eI ?_); first | ((with_reducible refine ev_idx ?_ ?_ ?_); (· rfl); · omega) | (refine ev_idxo rfl rfl ?_ ?_; (· first | omega | (simp only [List.length_cons, List.length_nil, List.length_map, List.length_append]; omega))) | refine ev_bd rfl ?_ | refine ev_bd0 rfl ?_) | ((with_reducible refine eC ?_); first | ((refine ev_callN (s_pick hb (by omega) _ (by omega)) rfl rfl ?_ (fun _ => rfl) ?_); (· first | exact .inl rfl | exact .inr (fun _ => rfl)); (first | (have q0 := z3; clear q0; intro z4 hz4) | (have q0 := z2; clear q0; intro z3 hz3) | (have q0 := z; clear q0; intro z2 hz2) | (intro z hz)))) | ((with_reducible refine eA ?_); first | (refine ev_app rfl rfl rfl rfl rfl ?_ ?_; · first | decide | (simp only [List.length_append, List.length_cons, List.length_nil, List.length_map, List.length_take, List.length_drop]; omega))) | ((with_reducible refine eK ?_); first | (with_reducible first | refine ev_ct ?_ | refine ev_cf ?_) | ((with_reducible refine ev_cond ?_ ?_) <;> intro h)) | ((with_reducible refine eO ?_); first | refine ev_bd rfl ?_ | (refine ev_bdB rfl ?_ ?_ <;> intro h <;> try (exfalso; simp_all; done)) | refine ev_bd0 rfl ?_ | (refine ev_ldz rfl rfl rfl ?_ ?_ ?_; (· simp); (· first | omega | (simp only [List.length_cons, List.length_nil, List.length_map, List.length_append]; omega)); intro w)) | ((with_reducible refine eD ?_); first | refine ev_bd rfl ?_ | refine ev_bd0 rfl ?_) | ((with_reducible refine eH ?_); first | refine ev_gcB rfl ?_) | ((with_reducible refine ih ?_ _ _ (ks ++ [k]) _ _ ?_ ?_ ?_ ?_ ?_) <;> (first | omega | assumption | (simp only [*, List.map_append, List.length_append, List.length_cons, List.length_nil, List.map_cons, List.map_nil]; done) | (simp_all; done) | (simp_all; omega))) | ((with_reducible refine ih ?_ _ _ ks _ _ ?_ hL ?_ ?_ ?_) <;> (first | omega | assumption | (simp only [*, List.map_append, List.length_append, List.length_cons, List.length_nil, List.map_cons, List.map_nil]; done) | (simp_all; done) | (simp_all; omega))) | ((with_reducible refine UJ69_4 ?_); (unfold JB69_4)) | ((with_reducible refine UJ69_9 ?_); (unfold JB69_9)) | (with_reducible first | refine UL69_3 ?_ | refine VL69_3 ?_) | refine ev_ret rfl ?_)
  · exact ⟨ks ++ [_], _, rfl, by rw [hL, List.map_append]; rfl, by simp; omega, by omega, by omega⟩
  · exact ⟨ks, _, rfl, by rw [hL], by omega, by omega, by omega⟩

theorem s_l71Keys {b : List Int} (hb : RdOK b) {p : Int} (hp : 0 ≤ p ∧ p < 900000000) : Ev (fun m => callF prg m 69 [.ptr 0 0] [rd b p]) (QKeys b p) := by
  refine U69 (nl := 1) rfl ?_
  unfold B69
  repeat' (first | ((with_reducible refine eD ?_); first | refine ev_bd rfl ?_ | refine ev_bd0 rfl ?_) | ((with_reducible refine eH ?_); first | refine ev_gcB rfl ?_) | ((with_reducible refine s_l71Keys_L hb hp 0 ?_ p _ [] _ _ ?_ ?_ ?_ ?_ ?_) <;> (first | omega | assumption | (simp only [*, List.map_append, List.length_append, List.length_cons, List.length_nil, List.map_cons, List.map_nil]; done) | (simp_all; done) | (simp_all; omega))) | (with_reducible first | refine UL69_3 ?_ | refine VL69_3 ?_) | refine ev_ret rfl ?_)
  all_goals trace_state

/-- A drawn root. -/
def QRoot (b : List Int) (p : Int) : SV → List SO → Prop := fun x os => ∃ (num : Int) (ks : List Int) (need q : Int), x = .ag [iI num, .osl 1, iI need] ∧ os = [rd b q, .arr false 1 (ks.map iI)] ∧ ks.length ≤ 7 ∧ p ≤ q ∧ q ≤ p + 40

theorem s_l71Root {b : List Int} (hb : RdOK b) {p : Int} (hp : 0 ≤ p ∧ p < 800000000) : Ev (fun m => callF prg m 48 [.ptr 0 0] [rd b p]) (QRoot b p) := by
  (refine U48 (nl := 1) rfl ?_; unfold B48)
  repeat' (first | ((with_reducible refine eB ?_); first | ((with_reducible refine ev_eql ?_ ?_) <;> intro h <;> try (exfalso; omega)) | ((with_reducible refine ev_add ?_ ?_); · omega) | refine ev_bd rfl ?_ | refine ev_bd0 rfl ?_) | ((with_reducible refine eL ?_); first | ((with_reducible refine ev_lenm ?_ ?_); · rfl) | refine ev_lenom rfl rfl ?_ | refine ev_lenoc rfl rfl rfl ?_ | refine ev_lenc rfl rfl ?_ | refine ev_leno rfl rfl ?_ | refine ev_slen rfl ?_ | refine ev_bd rfl ?_ | refine ev_bd0 rfl ?_) | ((with_reducible refine eI ?_); first | ((with_reducible refine ev_idx ?_ ?_ ?_); (· rfl); · omega) | (refine ev_idxo rfl rfl ?_ ?_; (· first | omega | (simp only [List.length_cons, List.length_nil, List.length_map, List.length_append]; omega))) | refine ev_bd rfl ?_ | refine ev_bd0 rfl ?_) | ((with_reducible refine eC ?_); first | ((refine ev_callN (s_pick hb (by omega) _ (by omega)) rfl rfl ?_ (fun _ => rfl) ?_); (· first | exact .inl rfl | exact .inr (fun _ => rfl)); (first | (have q0 := z3; clear q0; intro z4 hz4) | (have q0 := z2; clear q0; intro z3 hz3) | (have q0 := z; clear q0; intro z2 hz2) | (intro z hz))) | ((refine ev_callE (s_l71Keys hb (by omega)) rfl rfl ?_); ((rintro _ _ ⟨ks, q, rfl, rfl, hk, hq1, hq2⟩) <;> (first | (refine ev_post ?_ rfl ?_; (focus first | exact .inl rfl | exact .inr rfl | (refine .inr ?_; simp [flagC, ownF, hasSl3, hasSl1, SO.hasSl, List.all_map, flatSV, SV.cells, Function.comp_def]; done))) | (refine ev_postF ?_ rfl ?_; (focus first | rfl | (simp [flagC, ownF, hasSl3, hasSl1, SO.hasSl, List.all_map, flatSV, SV.cells, Function.comp_def]; done))))))) | ((with_reducible refine eK ?_); first | (with_reducible first | refine ev_ct ?_ | refine ev_cf ?_) | ((with_reducible refine ev_cond ?_ ?_) <;> intro h)) | ((with_reducible refine eO ?_); first | refine ev_bd rfl ?_ | (refine ev_bdB rfl ?_ ?_ <;> intro h <;> try (exfalso; simp_all; done)) | refine ev_bd0 rfl ?_ | (refine ev_ldz rfl rfl rfl ?_ ?_ ?_; (· simp); (· first | omega | (simp only [List.length_cons, List.length_nil, List.length_map, List.length_append]; omega)); intro w)) | ((with_reducible refine eD ?_); first | refine ev_bd rfl ?_ | refine ev_bd0 rfl ?_) | ((with_reducible refine UJ48_4 ?_); (unfold JB48_4)) | ((with_reducible refine UJ48_10 ?_); (unfold JB48_10)) | refine ev_ret rfl ?_)
  all_goals first | exact ⟨_, _, _, _, rfl, rfl, by omega, by omega, by omega⟩ | exact ⟨_, [_], _, _, rfl, rfl, by simp, by omega, by omega⟩ | trace_state

theorem s_l6Open (l : List Int) (hl : ∀ i, 0 ≤ nth l i ∧ nth l i < 256) : ∃ b, RdOK b ∧ Ex (fun m => callF prg m 49 [.sl 1 (l.map bI)] []) (.ptr 0 0) [rd b 0] := by
  have key : Ev (fun m => callF prg m 49 [.sl 1 (l.map bI)] []) (fun x os => ∃ b, RdOK b ∧ x = .ptr 0 0 ∧ os = [rd b 0]) := by
    (refine U49 (nl := 0) rfl ?_; unfold B49)
    repeat' (first | ((with_reducible refine eB ?_); first | ((with_reducible refine ev_gtr ?_ ?_) <;> intro h <;> try (exfalso; omega)) | refine ev_bd rfl ?_ | refine ev_bd0 rfl ?_) | ((with_reducible refine eL ?_); first | ((with_reducible refine ev_lenm ?_ ?_); · rfl) | refine ev_lenom rfl rfl ?_ | refine ev_lenoc rfl rfl rfl ?_ | refine ev_lenc rfl rfl ?_ | refine ev_leno rfl rfl ?_ | refine ev_slen rfl ?_ | refine ev_bd rfl ?_ | refine ev_bd0 rfl ?_) | ((with_reducible refine eS ?_); first | ((with_reducible first | refine ev_slh ?_ ?_ ?_ | refine ev_sll ?_ ?_ ?_); (· rfl); · omega) | ((first | refine ev_slvh rfl rfl ?_ ?_ | refine ev_slvl rfl rfl ?_ ?_); (· first | omega | (simp only [List.length_cons, List.length_nil, List.length_map, List.length_append]; omega))) | refine ev_bd rfl ?_ | refine ev_bd0 rfl ?_) | ((with_reducible refine eK ?_); first | (with_reducible first | refine ev_ct ?_ | refine ev_cf ?_) | ((with_reducible refine ev_cond ?_ ?_) <;> intro h)) | ((with_reducible refine eD ?_); first | refine ev_bd rfl ?_ | refine ev_bd0 rfl ?_) | ((with_reducible refine UJ49_3 ?_); (unfold JB49_3)) | refine ev_ret rfl ?_)
    · refine ⟨_, ⟨fun i => ?_, ?_⟩, rfl, rfl⟩
      · by_cases hi : i < (l.take (2000 : Int).toNat).length
        · have : nth (l.take (2000 : Int).toNat) i = nth l i := by
            unfold nth
            simp only [List.length_take] at hi
            simp only [List.getD_eq_getElem?_getD, List.getElem?_take]
            rw [if_pos (by omega)]
          rw [this]; exact hl i
        · have : nth (l.take (2000 : Int).toNat) i = 0 := by
            unfold nth
            rw [List.getD_eq_getElem?_getD, List.getElem?_eq_none (by omega)]; rfl
          rw [this]; omega
      · simp only [List.length_take]; omega
    · exact ⟨l, ⟨hl, by omega⟩, rfl, rfl⟩
  obtain ⟨x, os, ⟨b, hb, rfl, rfl⟩, he⟩ := key
  exact ⟨b, hb, he⟩

theorem s_DrawTrustNew (l : List Int) (hl : ∀ i, 0 ≤ nth l i ∧ nth l i < 256) : ∃ (num : Int) (ks : List Int) (need : Int), ks.length ≤ 7 ∧ Ex (fun m => callF prg m 13 [.sl 1 (l.map bI)] []) (.ag [iI num, .osl 0, iI need]) [.arr false 1 (ks.map iI)] := by
  have key : Ev (fun m => callF prg m 13 [.sl 1 (l.map bI)] []) (fun x os => ∃ (num : Int) (ks : List Int) (need : Int), x = .ag [iI num, .osl 0, iI need] ∧ os = [.arr false 1 (ks.map iI)] ∧ ks.length ≤ 7) := by
    obtain ⟨b, hb, hopen⟩ := s_l6Open l hl
    (refine U13 (nl := 0) rfl ?_; unfold B13)
    repeat' (first | ((with_reducible refine eC ?_); first | ((refine ev_call (hopen ..) rfl rfl ?_ rfl ?_); (focus first | exact .inl rfl | exact .inr rfl | (refine .inr ?_; simp [flagC, ownF, hasSl3, hasSl1, SO.hasSl, List.all_map, flatSV, SV.cells, Function.comp_def]; done))) | ((refine ev_callE (s_l71Root hb (by omega)) rfl rfl ?_); ((rintro _ _ ⟨num, ks, need, q, rfl, rfl, hk, hq1, hq2⟩) <;> (first | (refine ev_post ?_ rfl ?_; (focus first | exact .inl rfl | exact .inr rfl | (refine .inr ?_; simp [flagC, ownF, hasSl3, hasSl1, SO.hasSl, List.all_map, flatSV, SV.cells, Function.comp_def]; done))) | (refine ev_postF ?_ rfl ?_; (focus first | rfl | (simp [flagC, ownF, hasSl3, hasSl1, SO.hasSl, List.all_map, flatSV, SV.cells, Function.comp_def]; done))))))) | ((with_reducible refine eO ?_); first | refine ev_bd rfl ?_ | (refine ev_bdB rfl ?_ ?_ <;> intro h <;> try (exfalso; simp_all; done)) | refine ev_bd0 rfl ?_) | ((with_reducible refine eD ?_); first | refine ev_bd rfl ?_ | refine ev_bd0 rfl ?_) | refine ev_ret rfl ?_)
    all_goals first | exact ⟨_, _, _, rfl, rfl, by omega⟩ | trace_state
  obtain ⟨x, os, ⟨num, ks, need, rfl, rfl, hk⟩, he⟩ := key
  exact ⟨num, ks, need, hk, he⟩

end Go.Proofs.Ytjfegdlgepbjoaa
