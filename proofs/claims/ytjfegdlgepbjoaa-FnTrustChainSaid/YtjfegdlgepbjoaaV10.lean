/- The drawn trust with another root. -/
import Derived.Test.YtjfegdlgepbjoaaV8
namespace Go.Proofs.Ytjfegdlgepbjoaa
open Go
set_option linter.unusedVariables false
set_option linter.unusedSimpArgs false
set_option maxHeartbeats 40000000

theorem s_l31Union_L (a b : List Int) (ha : a.length ≤ 1000) (hb : b.length ≤ 1000) : ∀ i : Nat, i ≤ 6 → ∀ (k : Int) (ks : List Int) (L : List SV) (c : Nat), k = i + 1 → L = ks.map iI → ks.length ≤ i →
    Ev (fun n => G79_3 (callF prg n) (n + 1) 0 (n + 1 - c) [.sl 1 (a.map iI), .sl 1 (b.map iI), .osl 0, iI k] [.arr false 1 L]) (fun x os => ∃ ks : List Int, x = .osl 0 ∧ os = [.arr false 1 (ks.map iI)] ∧ ks.length ≤ 6) := by
  refine up_ind ?_
  intro i hi ih k ks L c hk hL hks
  have hLl : L.length = ks.length := by rw [hL, List.length_map]
  have hp1 : pairs a [k] ≤ 1000000 ∧ pairs b [k] ≤ 1000000 := by
    have key : ∀ l : List Int, pairs l [k] ≤ l.length := fun l => by
      unfold pairs
      induction l with
      | nil => simp
      | cons x xs ih => have := cnt_le [k] x; simp only [List.length_cons, List.length_nil] at this; rw [List.map_cons, List.sum_cons, List.length_cons]; omega
    have := key a; have := key b; omega
  (refine UG79_3 _ ?_; unfold GB79_3)
  repeat' (first | ((with_reducible refine eB ?_); first | ((with_reducible first | refine ev_leq ?_ ?_ | refine ev_gtr ?_ ?_) <;> intro h <;> try (exfalso; omega)) | ((with_reducible refine ev_add ?_ ?_); · omega) | refine ev_bd rfl ?_ | refine ev_bd0 rfl ?_) | ((with_reducible refine eC ?_); first | ((refine ev_call (s_l2Both a [k] ha (by simp)) rfl rfl ?_ rfl ?_); (focus first | exact .inl rfl | exact .inr rfl | (refine .inr ?_; simp [flagC, ownF, hasSl3, hasSl1, SO.hasSl, List.all_map, flatSV, SV.cells, Function.comp_def]; done))) | ((refine ev_call (s_l2Both b [k] hb (by simp)) rfl rfl ?_ rfl ?_); (focus first | exact .inl rfl | exact .inr rfl | (refine .inr ?_; simp [flagC, ownF, hasSl3, hasSl1, SO.hasSl, List.all_map, flatSV, SV.cells, Function.comp_def]; done)))) | ((with_reducible refine eA ?_); first | (refine ev_app rfl rfl rfl rfl rfl ?_ ?_; · first | decide | (simp only [List.length_append, List.length_cons, List.length_nil, List.length_map, List.length_take]; omega))) | ((with_reducible refine eK ?_); first | (with_reducible first | refine ev_ct ?_ | refine ev_cf ?_) | ((with_reducible refine ev_cond ?_ ?_) <;> intro h)) | ((with_reducible refine eD ?_); first | refine ev_bd rfl ?_ | refine ev_bd0 rfl ?_) | ((with_reducible refine eH ?_); first | refine ev_gcB rfl ?_) | (with_reducible first | refine UL79_3 ?_ | refine VL79_3 ?_) | ((with_reducible refine UJ79_4 ?_); (unfold JB79_4)) | ((with_reducible refine ih ?_ _ (ks ++ [k]) _ _ ?_ ?_ ?_) <;> (first | omega | assumption | (simp only [*, List.map_append, List.length_append, List.length_cons, List.length_nil, List.map_cons, List.map_nil]; done) | (simp_all; done) | (simp_all; omega))) | ((with_reducible refine ih ?_ _ ks _ _ ?_ hL ?_) <;> (first | omega | assumption | (simp only [*, List.map_append, List.length_append, List.length_cons, List.length_nil, List.map_cons, List.map_nil]; done) | (simp_all; done) | (simp_all; omega))) | refine ev_ret rfl ?_)
  exact ⟨ks, rfl, by rw [hL], by omega⟩
theorem s_l31Union (a b : List Int) (ha : a.length ≤ 1000) (hb : b.length ≤ 1000) : ∃ ks : List Int, ks.length ≤ 6 ∧ Ex (fun m => callF prg m 79 [.sl 1 (a.map iI), .sl 1 (b.map iI)] []) (.osl 0) [.arr false 1 (ks.map iI)] := by
  have key : Ev (fun m => callF prg m 79 [.sl 1 (a.map iI), .sl 1 (b.map iI)] []) (fun x os => ∃ ks : List Int, x = .osl 0 ∧ os = [.arr false 1 (ks.map iI)] ∧ ks.length ≤ 6) := by
    (refine U79 (nl := 0) rfl ?_; unfold B79)
    repeat' (first | ((with_reducible refine eD ?_); first | refine ev_bd rfl ?_ | refine ev_bd0 rfl ?_) | ((with_reducible refine eH ?_); first | refine ev_gcB rfl ?_) | (with_reducible first | refine UL79_3 ?_ | refine VL79_3 ?_) | ((with_reducible refine s_l31Union_L a b ha hb 0 ?_ _ [] _ _ ?_ ?_ ?_) <;> (first | omega | assumption | (simp only [*, List.map_append, List.length_append, List.length_cons, List.length_nil, List.map_cons, List.map_nil]; done) | (simp_all; done) | (simp_all; omega))) | refine ev_ret rfl ?_)
  obtain ⟨x, os, ⟨ks, rfl, rfl, hk⟩, he⟩ := key
  exact ⟨ks, hk, he⟩

theorem s_DrawTrustRoot (l : List Int) (hl : ∀ i, 0 ≤ nth l i ∧ nth l i < 256) : ∃ (t : TTrust) (s : TRoot) (by_ : List Int), t.root.keys.length ≤ 8 ∧ t.index.metas.length ≤ 20 ∧ s.keys.length ≤ 8 ∧ by_.length ≤ 8 ∧
    Ex (fun m => callF prg m 34 [.sl 1 (l.map bI)] []) (.tup [rTrust t, .ag [iI s.num, .osl 2, iI s.need, .osl 3]]) (oTrust t ++ [.arr false 1 (s.keys.map iI), .arr false 1 (by_.map iI)]) := by
  obtain ⟨b, hb, hopen⟩ := s_l6Open l hl
  obtain ⟨_, _, ⟨num, ks, need, has, xn, xt, ms, s, q, rfl, rfl, hk, hm, hs, hsm, hq1, hq2⟩, htr⟩ := s_l71Trust hb (p := 0) (by omega)
  obtain ⟨_, _, ⟨num2, ks2, need2, q2, rfl, rfl, hk2, hq21, hq22⟩, hrt⟩ := s_l71Root hb (p := q) (by omega)
  obtain ⟨z1, hz1, he1⟩ := s_pick hb (p := q2) (by omega) 12 (by omega)
  obtain ⟨z2, hz2, he2⟩ := s_pick hb (p := q2 + 1) (by omega) 12 (by omega)
  obtain ⟨ks3, hk3, hun⟩ := s_l31Union ks ks2 (by omega) (by omega)
  obtain ⟨z4, hz4, he4⟩ := s_pick hb (p := q2 + 1 + 1) (by omega) 4 (by omega)
  obtain ⟨_, _, ⟨ks4, q3, rfl, rfl, hk4, hq31, hq32⟩, hkeys⟩ := s_l71Keys hb (p := q2 + 1 + 1 + 1) (by omega)
  refine ⟨⟨⟨num, ks, need⟩, has, ⟨xn, xt, ms⟩⟩, ⟨IntKind.i64.wrap (IntKind.i64.wrap (IntKind.i64.wrap (num + 1) + z1 / 11) - z2 / 11), ks2, need2⟩, if z4 = 0 then ks4 else ks3, hk, hm, by dsimp only; omega, by split <;> omega, ev_is.1 ?_⟩
  (refine U34 (nl := 0) rfl ?_; unfold B34)
  repeat' (first | ((with_reducible refine eB ?_); first | ((with_reducible refine ev_eql ?_ ?_) <;> intro h <;> try (exfalso; omega)) | ((with_reducible first | refine ev_add ?_ ?_ | refine ev_sub ?_ ?_); · omega) | ((with_reducible refine ev_quo ?_ ?_ ?_); (· omega); (· omega); intro x hx hx0 hx1) | refine ev_bd rfl ?_ | refine ev_bd0 rfl ?_) | ((with_reducible refine eC ?_); first | ((refine ev_call (hopen ..) rfl rfl ?_ rfl ?_); (focus first | exact .inl rfl | exact .inr rfl | (refine .inr ?_; simp [flagC, ownF, hasSl3, hasSl1, SO.hasSl, List.all_map, flatSV, SV.cells, Function.comp_def]; done))) | ((refine ev_call (htr ..) rfl rfl ?_ rfl ?_); (focus first | exact .inl rfl | exact .inr rfl | (refine .inr ?_; simp [flagC, ownF, hasSl3, hasSl1, SO.hasSl, List.all_map, flatSV, SV.cells, Function.comp_def]; done))) | ((refine ev_call (hrt ..) rfl rfl ?_ rfl ?_); (focus first | exact .inl rfl | exact .inr rfl | (refine .inr ?_; simp [flagC, ownF, hasSl3, hasSl1, SO.hasSl, List.all_map, flatSV, SV.cells, Function.comp_def]; done))) | ((refine ev_call (he1 ..) rfl rfl ?_ rfl ?_); (focus first | exact .inl rfl | exact .inr rfl | (refine .inr ?_; simp [flagC, ownF, hasSl3, hasSl1, SO.hasSl, List.all_map, flatSV, SV.cells, Function.comp_def]; done))) | ((refine ev_call (he2 ..) rfl rfl ?_ rfl ?_); (focus first | exact .inl rfl | exact .inr rfl | (refine .inr ?_; simp [flagC, ownF, hasSl3, hasSl1, SO.hasSl, List.all_map, flatSV, SV.cells, Function.comp_def]; done))) | ((refine ev_call (hun ..) rfl rfl ?_ rfl ?_); (focus first | exact .inl rfl | exact .inr rfl | (refine .inr ?_; simp [flagC, ownF, hasSl3, hasSl1, SO.hasSl, List.all_map, flatSV, SV.cells, Function.comp_def]; done))) | ((refine ev_call (he4 ..) rfl rfl ?_ rfl ?_); (focus first | exact .inl rfl | exact .inr rfl | (refine .inr ?_; simp [flagC, ownF, hasSl3, hasSl1, SO.hasSl, List.all_map, flatSV, SV.cells, Function.comp_def]; done))) | ((refine ev_call (hkeys ..) rfl rfl ?_ rfl ?_); (focus first | exact .inl rfl | exact .inr rfl | (refine .inr ?_; simp [flagC, ownF, hasSl3, hasSl1, SO.hasSl, List.all_map, flatSV, SV.cells, Function.comp_def]; done)))) | ((with_reducible refine eK ?_); first | (with_reducible first | refine ev_ct ?_ | refine ev_cf ?_) | ((with_reducible refine ev_cond ?_ ?_) <;> intro h)) | ((with_reducible refine eO ?_); first | refine ev_bd rfl ?_ | (refine ev_bdB rfl ?_ ?_ <;> intro h <;> try (exfalso; simp_all; done)) | refine ev_bd0 rfl ?_) | ((with_reducible refine eD ?_); first | refine ev_bd rfl ?_ | refine ev_bd0 rfl ?_) | ((with_reducible refine ev_dchk ?_ ?_); · intro _; rfl) | (with_reducible refine ev_bothI ?_ ?_) | ((with_reducible refine UJ34_8 ?_); (unfold JB34_8)) | refine ev_ret rfl ?_)
  all_goals first | (rw [if_pos h]; subst_vars; exact ⟨rfl, rfl⟩) | (rw [if_neg h]; subst_vars; exact ⟨rfl, rfl⟩)

end Go.Proofs.Ytjfegdlgepbjoaa
