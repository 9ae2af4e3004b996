/- The evaluator S and what it says of functions: W32, W33, Tm, V40, V43, V46, Tn, Wk. -/
import Derived.Test.YtikennabfbkdhaaW31
import Derived.Test.YtikennabfbkdhaaV21
import Derived.Test.YtikennabfbkdhaaProg
import Derived.Test.YtikennabfbkdhaaTe
import Derived.WalkKit
import Derived.Shelf.Spec.SlicesInsertGrow
import Derived.Test.YtikennabfbkdhaaV7
import Derived.Test.YtikennabfbkdhaaV2
import Derived.LoopN
/- Worlds begin: the program. -/
namespace Go.Proofs.Ytikennabfbkdhaa
open Go
set_option linter.unusedVariables false
set_option linter.unusedSimpArgs false
set_option maxHeartbeats 4000000
set_option maxRecDepth 100000
theorem s_WorldNewI1 (r : TRoot) (bad : List Int) (h1 : r.keys.length ≤ 100) (h2 : bad.length ≤ 100) (h : worldOk r bad) : Ex (fun m => callF prg m 6 [aRoot r, .sl 1 (bad.map iI)] []) (.tup [aWorld r bad, bB true]) [] := by
  refine ev_is.1 ?_
  obtain ⟨a1, a2, a3, a4⟩ := h
  have hT := s_TrustNewIX r a1 h1
  have hB := s_safe r bad h1 h2
  rw [decide_eq_true a3] at hB
  have hR := s_RootOkI r.num r.keys r.need (by omega)
  rw [a1] at hR
  have hK := s_KeysOkI bad (by omega)
  rw [a2] at hK
  (refine U6 (nl := 0) rfl ?_; unfold B6)
  repeat' (first | ((with_reducible refine eG ?_); first | (with_reducible first | refine ev_gtt ?_ | refine ev_gff ?_ | refine ev_gtf ?_ | refine ev_gft ?_ | refine ev_gu ?_) | refine ev_bd rfl ?_ | refine ev_bd0 rfl ?_ | ((with_reducible refine ev_gB ?_ ?_) <;> intro h)) | ((with_reducible refine eB ?_); first | ((with_reducible refine ev_neq ?_ ?_) <;> intro h <;> try (exfalso; omega)) | refine ev_bd rfl ?_ | refine ev_bd0 rfl ?_) | ((with_reducible refine eC ?_); first | ((refine ev_call (hR ..) rfl rfl ?_ rfl ?_); (focus first | exact .inl rfl | exact .inr rfl | (refine .inr ?_; simp [flagC, ownF, hasSl3, hasSl1, SO.hasSl, List.all_map, flatSV, SV.cells, Function.comp_def]; done))) | ((refine ev_call (hK ..) rfl rfl ?_ rfl ?_); (focus first | exact .inl rfl | exact .inr rfl | (refine .inr ?_; simp [flagC, ownF, hasSl3, hasSl1, SO.hasSl, List.all_map, flatSV, SV.cells, Function.comp_def]; done))) | ((refine ev_call (hB ..) rfl rfl ?_ rfl ?_); (focus first | exact .inl rfl | exact .inr rfl | (refine .inr ?_; simp [flagC, ownF, hasSl3, hasSl1, SO.hasSl, List.all_map, flatSV, SV.cells, Function.comp_def]; done))) | ((refine ev_call (hT ..) rfl rfl ?_ rfl ?_); (focus first | exact .inl rfl | exact .inr rfl | (refine .inr ?_; simp [flagC, ownF, hasSl3, hasSl1, SO.hasSl, List.all_map, flatSV, SV.cells, Function.comp_def]; done))) | ((refine ev_call (s_copiedRoot r.num r.keys r.need (by omega)) rfl rfl ?_ rfl ?_); (focus first | exact .inl rfl | exact .inr rfl | (refine .inr ?_; simp [flagC, ownF, hasSl3, hasSl1, SO.hasSl, List.all_map, flatSV, SV.cells, Function.comp_def]; done))) | ((refine ev_call (s_CloneInt r.keys (by omega)) rfl rfl ?_ rfl ?_); (focus first | exact .inl rfl | exact .inr rfl | (refine .inr ?_; simp [flagC, ownF, hasSl3, hasSl1, SO.hasSl, List.all_map, flatSV, SV.cells, Function.comp_def]; done))) | ((refine ev_call (s_CloneInt bad (by omega)) rfl rfl ?_ rfl ?_); (focus first | exact .inl rfl | exact .inr rfl | (refine .inr ?_; simp [flagC, ownF, hasSl3, hasSl1, SO.hasSl, List.all_map, flatSV, SV.cells, Function.comp_def]; done))) | ((refine ev_call (s_DiskNewIP ..) rfl rfl ?_ rfl ?_); (focus first | exact .inl rfl | exact .inr rfl | (refine .inr ?_; simp [flagC, ownF, hasSl3, hasSl1, SO.hasSl, List.all_map, flatSV, SV.cells, Function.comp_def]; done)))) | ((with_reducible refine eK ?_); first | (with_reducible first | refine ev_ct ?_ | refine ev_cf ?_) | ((with_reducible refine ev_cond ?_ ?_) <;> intro h)) | ((with_reducible refine eO ?_); first | refine ev_bd rfl ?_ | (refine ev_bdB rfl ?_ ?_ <;> intro h <;> try (exfalso; simp_all; done)) | refine ev_bd0 rfl ?_ | (refine ev_ldm rfl ?_ rfl ?_; (focus omega)) | (refine ev_ldmB rfl ?_ rfl ?_ ?_; (focus omega); (all_goals intro h)) | (refine ev_ldz rfl rfl rfl ?_ ?_ ?_; (· simp); (· first | omega | (simp only [List.length_cons, List.length_nil, List.length_map, List.length_append]; omega)); intro w)) | ((with_reducible refine eD ?_); first | refine ev_bd rfl ?_ | refine ev_bd0 rfl ?_ | ((with_reducible refine ev_pickB ?_ ?_) <;> intro h)) | ((with_reducible refine ev_dchk ?_ ?_); · intro _; rfl) | (with_reducible refine ev_bothI ?_ ?_) | ((with_reducible refine UJ6_5 ?_); (unfold JB6_5)) | refine ev_ret rfl ?_)
  all_goals first | exact ⟨rfl, rfl⟩ | (exfalso; omega) | trace_state
theorem s_WorldNewI0 (r : TRoot) (bad : List Int) (h1 : r.keys.length ≤ 100) (h2 : bad.length ≤ 100) (h : ¬ worldOk r bad) : Ex (fun m => callF prg m 6 [aRoot r, .sl 1 (bad.map iI)] []) (.tup [zWorld, bB false]) [] := by
  refine ev_is.1 ?_
  have hB := s_safe r bad h1 h2
  by_cases a1 : rootOk r.num r.keys r.need = true
  · have hR := s_RootOkI r.num r.keys r.need (by omega)
    rw [a1] at hR
    by_cases a2 : keysOk bad = true
    · have hK := s_KeysOkI bad (by omega)
      rw [a2] at hK
      by_cases a3 : keysBoth r.keys bad < r.need
      · have a4 : ¬ r.num = 1 := fun e => h ⟨a1, a2, a3, e⟩
        rw [decide_eq_true a3] at hB
        (refine U6 (nl := 0) rfl ?_; unfold B6)
        repeat' (first | ((with_reducible refine eG ?_); first | (with_reducible first | refine ev_gtt ?_ | refine ev_gff ?_ | refine ev_gtf ?_ | refine ev_gft ?_ | refine ev_gu ?_) | refine ev_bd rfl ?_ | refine ev_bd0 rfl ?_ | ((with_reducible refine ev_gB ?_ ?_) <;> intro h)) | ((with_reducible refine eB ?_); first | ((with_reducible refine ev_neq ?_ ?_) <;> intro h <;> try (exfalso; omega)) | refine ev_bd rfl ?_ | refine ev_bd0 rfl ?_) | ((with_reducible refine eC ?_); first | ((refine ev_call (hR ..) rfl rfl ?_ rfl ?_); (focus first | exact .inl rfl | exact .inr rfl | (refine .inr ?_; simp [flagC, ownF, hasSl3, hasSl1, SO.hasSl, List.all_map, flatSV, SV.cells, Function.comp_def]; done))) | ((refine ev_call (hK ..) rfl rfl ?_ rfl ?_); (focus first | exact .inl rfl | exact .inr rfl | (refine .inr ?_; simp [flagC, ownF, hasSl3, hasSl1, SO.hasSl, List.all_map, flatSV, SV.cells, Function.comp_def]; done))) | ((refine ev_call (hB ..) rfl rfl ?_ rfl ?_); (focus first | exact .inl rfl | exact .inr rfl | (refine .inr ?_; simp [flagC, ownF, hasSl3, hasSl1, SO.hasSl, List.all_map, flatSV, SV.cells, Function.comp_def]; done)))) | ((with_reducible refine eK ?_); first | (with_reducible first | refine ev_ct ?_ | refine ev_cf ?_) | ((with_reducible refine ev_cond ?_ ?_) <;> intro h)) | ((with_reducible refine eO ?_); first | refine ev_bd rfl ?_ | (refine ev_bdB rfl ?_ ?_ <;> intro h <;> try (exfalso; simp_all; done)) | refine ev_bd0 rfl ?_ | (refine ev_ldm rfl ?_ rfl ?_; (focus omega)) | (refine ev_ldmB rfl ?_ rfl ?_ ?_; (focus omega); (all_goals intro h))) | ((with_reducible refine eD ?_); first | refine ev_bd rfl ?_ | refine ev_bd0 rfl ?_ | ((with_reducible refine ev_pickB ?_ ?_) <;> intro h)) | ((with_reducible refine ev_dchk ?_ ?_); · intro _; rfl) | (with_reducible refine ev_bothI ?_ ?_) | refine ev_ret rfl ?_)
        all_goals first | exact ⟨rfl, rfl⟩ | (exfalso; omega) | trace_state
      · rw [decide_eq_false a3] at hB
        (refine U6 (nl := 0) rfl ?_; unfold B6)
        repeat' (first | ((with_reducible refine eG ?_); first | (with_reducible first | refine ev_gtt ?_ | refine ev_gff ?_ | refine ev_gtf ?_ | refine ev_gft ?_ | refine ev_gu ?_) | refine ev_bd rfl ?_ | refine ev_bd0 rfl ?_ | ((with_reducible refine ev_gB ?_ ?_) <;> intro h)) | ((with_reducible refine eB ?_); first | ((with_reducible refine ev_neq ?_ ?_) <;> intro h <;> try (exfalso; omega)) | refine ev_bd rfl ?_ | refine ev_bd0 rfl ?_) | ((with_reducible refine eC ?_); first | ((refine ev_call (hR ..) rfl rfl ?_ rfl ?_); (focus first | exact .inl rfl | exact .inr rfl | (refine .inr ?_; simp [flagC, ownF, hasSl3, hasSl1, SO.hasSl, List.all_map, flatSV, SV.cells, Function.comp_def]; done))) | ((refine ev_call (hK ..) rfl rfl ?_ rfl ?_); (focus first | exact .inl rfl | exact .inr rfl | (refine .inr ?_; simp [flagC, ownF, hasSl3, hasSl1, SO.hasSl, List.all_map, flatSV, SV.cells, Function.comp_def]; done))) | ((refine ev_call (hB ..) rfl rfl ?_ rfl ?_); (focus first | exact .inl rfl | exact .inr rfl | (refine .inr ?_; simp [flagC, ownF, hasSl3, hasSl1, SO.hasSl, List.all_map, flatSV, SV.cells, Function.comp_def]; done)))) | ((with_reducible refine eK ?_); first | (with_reducible first | refine ev_ct ?_ | refine ev_cf ?_) | ((with_reducible refine ev_cond ?_ ?_) <;> intro h)) | ((with_reducible refine eO ?_); first | refine ev_bd rfl ?_ | (refine ev_bdB rfl ?_ ?_ <;> intro h <;> try (exfalso; simp_all; done)) | refine ev_bd0 rfl ?_ | (refine ev_ldm rfl ?_ rfl ?_; (focus omega)) | (refine ev_ldmB rfl ?_ rfl ?_ ?_; (focus omega); (all_goals intro h))) | ((with_reducible refine eD ?_); first | refine ev_bd rfl ?_ | refine ev_bd0 rfl ?_ | ((with_reducible refine ev_pickB ?_ ?_) <;> intro h)) | ((with_reducible refine ev_dchk ?_ ?_); · intro _; rfl) | (with_reducible refine ev_bothI ?_ ?_) | refine ev_ret rfl ?_)
        all_goals first | exact ⟨rfl, rfl⟩ | (exfalso; omega) | trace_state
    · have hK := s_KeysOkI bad (by omega)
      rw [Bool.eq_false_iff.2 a2] at hK
      (refine U6 (nl := 0) rfl ?_; unfold B6)
      repeat' (first | ((with_reducible refine eG ?_); first | (with_reducible first | refine ev_gtt ?_ | refine ev_gff ?_ | refine ev_gtf ?_ | refine ev_gft ?_ | refine ev_gu ?_) | refine ev_bd rfl ?_ | refine ev_bd0 rfl ?_ | ((with_reducible refine ev_gB ?_ ?_) <;> intro h)) | ((with_reducible refine eB ?_); first | ((with_reducible refine ev_neq ?_ ?_) <;> intro h <;> try (exfalso; omega)) | refine ev_bd rfl ?_ | refine ev_bd0 rfl ?_) | ((with_reducible refine eC ?_); first | ((refine ev_call (hR ..) rfl rfl ?_ rfl ?_); (focus first | exact .inl rfl | exact .inr rfl | (refine .inr ?_; simp [flagC, ownF, hasSl3, hasSl1, SO.hasSl, List.all_map, flatSV, SV.cells, Function.comp_def]; done))) | ((refine ev_call (hK ..) rfl rfl ?_ rfl ?_); (focus first | exact .inl rfl | exact .inr rfl | (refine .inr ?_; simp [flagC, ownF, hasSl3, hasSl1, SO.hasSl, List.all_map, flatSV, SV.cells, Function.comp_def]; done))) | ((refine ev_call (hB ..) rfl rfl ?_ rfl ?_); (focus first | exact .inl rfl | exact .inr rfl | (refine .inr ?_; simp [flagC, ownF, hasSl3, hasSl1, SO.hasSl, List.all_map, flatSV, SV.cells, Function.comp_def]; done)))) | ((with_reducible refine eK ?_); first | (with_reducible first | refine ev_ct ?_ | refine ev_cf ?_) | ((with_reducible refine ev_cond ?_ ?_) <;> intro h)) | ((with_reducible refine eO ?_); first | refine ev_bd rfl ?_ | (refine ev_bdB rfl ?_ ?_ <;> intro h <;> try (exfalso; simp_all; done)) | refine ev_bd0 rfl ?_ | (refine ev_ldm rfl ?_ rfl ?_; (focus omega)) | (refine ev_ldmB rfl ?_ rfl ?_ ?_; (focus omega); (all_goals intro h))) | ((with_reducible refine eD ?_); first | refine ev_bd rfl ?_ | refine ev_bd0 rfl ?_ | ((with_reducible refine ev_pickB ?_ ?_) <;> intro h)) | ((with_reducible refine ev_dchk ?_ ?_); · intro _; rfl) | (with_reducible refine ev_bothI ?_ ?_) | refine ev_ret rfl ?_)
      all_goals first | exact ⟨rfl, rfl⟩ | (exfalso; omega) | trace_state
  · have hR := s_RootOkI r.num r.keys r.need (by omega)
    rw [Bool.eq_false_iff.2 a1] at hR
    (refine U6 (nl := 0) rfl ?_; unfold B6)
    repeat' (first | ((with_reducible refine eG ?_); first | (with_reducible first | refine ev_gtt ?_ | refine ev_gff ?_ | refine ev_gtf ?_ | refine ev_gft ?_ | refine ev_gu ?_) | refine ev_bd rfl ?_ | refine ev_bd0 rfl ?_ | ((with_reducible refine ev_gB ?_ ?_) <;> intro h)) | ((with_reducible refine eB ?_); first | ((with_reducible refine ev_neq ?_ ?_) <;> intro h <;> try (exfalso; omega)) | refine ev_bd rfl ?_ | refine ev_bd0 rfl ?_) | ((with_reducible refine eC ?_); first | ((refine ev_call (hR ..) rfl rfl ?_ rfl ?_); (focus first | exact .inl rfl | exact .inr rfl | (refine .inr ?_; simp [flagC, ownF, hasSl3, hasSl1, SO.hasSl, List.all_map, flatSV, SV.cells, Function.comp_def]; done)))) | ((with_reducible refine eK ?_); first | (with_reducible first | refine ev_ct ?_ | refine ev_cf ?_) | ((with_reducible refine ev_cond ?_ ?_) <;> intro h)) | ((with_reducible refine eO ?_); first | refine ev_bd rfl ?_ | (refine ev_bdB rfl ?_ ?_ <;> intro h <;> try (exfalso; simp_all; done)) | refine ev_bd0 rfl ?_ | (refine ev_ldm rfl ?_ rfl ?_; (focus omega)) | (refine ev_ldmB rfl ?_ rfl ?_ ?_; (focus omega); (all_goals intro h))) | ((with_reducible refine eD ?_); first | refine ev_bd rfl ?_ | refine ev_bd0 rfl ?_ | ((with_reducible refine ev_pickB ?_ ?_) <;> intro h)) | ((with_reducible refine ev_dchk ?_ ?_); · intro _; rfl) | (with_reducible refine ev_bothI ?_ ?_) | refine ev_ret rfl ?_)
    all_goals first | exact ⟨rfl, rfl⟩ | (exfalso; omega) | trace_state
end Go.Proofs.Ytikennabfbkdhaa

/- Worlds begin: the spec's first world. -/
namespace Go.Proofs.Ytikennabfbkdhaa
open Go
set_option linter.unusedVariables false
set_option linter.unusedSimpArgs false
set_option maxHeartbeats 4000000
set_option maxRecDepth 100000
theorem ev_buildW {os : List SO} {a1 a2 a3 a4 t0 t1 t2 t3 t4 t5 t6 a6 d0 d1 d2 d3 : SV} {F : Nat → SV → List SO → Out} {Q}
    (h : buildS tab os 39 [(1, some a1), (2, some a2), (3, some a3), (4, some a4), (5, some (.ag [t0, t1, t2, t3, t4, t5, t6])), (6, some a6), (7, some (.ag [d0, d1, d2, d3]))] = some (.ag [.v (.int .i64 0), a1, a2, a3, a4, t0, t1, t2, t3, t4, t5, t6, a6, d0, d1, d2, d3], os ++ [.arr false 4 [], .arr false 4 [], .arr false 4 [], .arr false 1 [], .arr false 1 [], .arr false 3 [], .arr false 4 [], .arr false 4 [], .arr false 1 [], .arr false 4 []]))
    (h2 : Ev (fun n => F n (.ag [.v (.int .i64 0), a1, a2, a3, a4, t0, t1, t2, t3, t4, t5, t6, a6, d0, d1, d2, d3]) (os ++ [.arr false 4 [], .arr false 4 [], .arr false 4 [], .arr false 1 [], .arr false 1 [], .arr false 3 [], .arr false 4 [], .arr false 4 [], .arr false 1 [], .arr false 4 []])) Q) :
    Ev (fun n => bd (buildS tab os 39 [(1, some a1), (2, some a2), (3, some a3), (4, some a4), (5, some (.ag [t0, t1, t2, t3, t4, t5, t6])), (6, some a6), (7, some (.ag [d0, d1, d2, d3]))]) (F n)) Q := ev_bdx h h2
theorem ev_retK {A : Out} {x : SV} {os : List SO} (h : A = some (x, os)) : Ev (fun _ => A) (Is x os) := ev_is.2 ⟨0, fun _ _ => h⟩
theorem s_WorldNewS1 (r : TRoot) (bad : List Int) (h1 : r.keys.length ≤ 100) (h2 : bad.length ≤ 100) (h : worldOk r bad) : Ex (fun m => callF prg m 5 [aRoot r, .sl 1 (bad.map iI)] []) (.tup [aWorld r bad, bB true]) [] := by
  refine ev_is.1 ?_
  obtain ⟨a1, a2, a3, a4⟩ := h
  rw [both_pairs a1 a2] at a3
  have hT := s_TrustNewSX r a1 h1
  have hR := s_RootOkS r.num r.keys r.need (by omega)
  rw [a1] at hR
  have hK := s_KeysOkS bad (by omega)
  rw [a2] at hK
  have hB := s_l2Both r.keys bad (by omega) (by omega)
  have hC := s_l11RootCopy r.num r.keys r.need (by omega)
  (refine U5 (nl := 0) rfl ?_; unfold B5)
  repeat' (first | (((with_reducible refine ev_buildW ?_ ?_); (· kernel_rfl); (simp only [List.cons_append, List.nil_append]))) | ((with_reducible refine eG ?_); first | (with_reducible first | refine ev_gtt ?_ | refine ev_gff ?_ | refine ev_gtf ?_ | refine ev_gft ?_ | refine ev_gu ?_) | refine ev_bd rfl ?_ | refine ev_bd0 rfl ?_ | ((with_reducible refine ev_gB ?_ ?_) <;> intro h)) | ((with_reducible refine eB ?_); first | ((with_reducible first | refine ev_geq ?_ ?_ | refine ev_neq ?_ ?_) <;> intro h <;> try (exfalso; omega)) | refine ev_bd rfl ?_ | refine ev_bd0 rfl ?_) | ((with_reducible refine eC ?_); first | ((refine ev_call (hR ..) rfl rfl ?_ rfl ?_); (focus first | exact .inl rfl | exact .inr rfl | (refine .inr ?_; simp [flagC, ownF, hasSl3, hasSl1, SO.hasSl, List.all_map, flatSV, SV.cells, Function.comp_def]; done))) | ((refine ev_call (hK ..) rfl rfl ?_ rfl ?_); (focus first | exact .inl rfl | exact .inr rfl | (refine .inr ?_; simp [flagC, ownF, hasSl3, hasSl1, SO.hasSl, List.all_map, flatSV, SV.cells, Function.comp_def]; done))) | ((refine ev_call (hB ..) rfl rfl ?_ rfl ?_); (focus first | exact .inl rfl | exact .inr rfl | (refine .inr ?_; simp [flagC, ownF, hasSl3, hasSl1, SO.hasSl, List.all_map, flatSV, SV.cells, Function.comp_def]; done))) | ((refine ev_call (hT ..) rfl rfl ?_ rfl ?_); (focus first | exact .inl rfl | exact .inr rfl | (refine .inr ?_; simp [flagC, ownF, hasSl3, hasSl1, SO.hasSl, List.all_map, flatSV, SV.cells, Function.comp_def]; done))) | ((refine ev_call (hC ..) rfl rfl ?_ rfl ?_); (focus first | exact .inl rfl | exact .inr rfl | (refine .inr ?_; simp [flagC, ownF, hasSl3, hasSl1, SO.hasSl, List.all_map, flatSV, SV.cells, Function.comp_def]; done))) | ((refine ev_call (s_DiskNewSP ..) rfl rfl ?_ rfl ?_); (focus first | exact .inl rfl | exact .inr rfl | (refine .inr ?_; simp [flagC, ownF, hasSl3, hasSl1, SO.hasSl, List.all_map, flatSV, SV.cells, Function.comp_def]; done)))) | ((with_reducible refine eA ?_); first | (refine ev_app rfl rfl rfl rfl rfl ?_ ?_; · first | decide | (simp only [List.length_append, List.length_cons, List.length_nil, List.length_map, List.length_take, List.length_drop]; omega))) | ((with_reducible refine eK ?_); first | (with_reducible first | refine ev_ct ?_ | refine ev_cf ?_) | ((with_reducible refine ev_cond ?_ ?_) <;> intro h)) | ((with_reducible refine eO ?_); first | refine ev_bd rfl ?_ | (refine ev_bdB rfl ?_ ?_ <;> intro h <;> try (exfalso; simp_all; done)) | refine ev_bd0 rfl ?_ | (refine ev_ldm rfl ?_ rfl ?_; (focus omega)) | (refine ev_ldmB rfl ?_ rfl ?_ ?_; (focus omega); (all_goals intro h)) | (refine ev_ldz rfl rfl rfl ?_ ?_ ?_; (· simp); (· first | omega | (simp only [List.length_cons, List.length_nil, List.length_map, List.length_append]; omega)); intro w)) | ((with_reducible refine eD ?_); first | refine ev_bd rfl ?_ | refine ev_bd0 rfl ?_ | ((with_reducible refine ev_pickB ?_ ?_) <;> intro h)) | ((with_reducible refine ev_dchk ?_ ?_); · intro _; rfl) | (with_reducible refine ev_bothI ?_ ?_) | ((with_reducible refine UJ5_5 ?_); (unfold JB5_5)) | refine ev_ret rfl ?_)
  all_goals first | exact ⟨rfl, rfl⟩ | (exfalso; omega) | trace_state
end Go.Proofs.Ytikennabfbkdhaa

/- The exact laws' functions over packages: making and marking, walked. -/
set_option linter.unusedVariables false
set_option linter.unusedSimpArgs false
namespace Go.Proofs.Ytikennabfbkdhaa
open Go Go.Shelf Go.RowKit Go.Lib Go.Proofs
set_option maxHeartbeats 1000000
set_option maxRecDepth 100000
end Go.Proofs.Ytikennabfbkdhaa

/- The exact laws' own functions, over whole numbers. -/
namespace Go.Proofs.Ytikennabfbkdhaa
open Go
set_option linter.unusedVariables false
set_option linter.unusedSimpArgs false
set_option maxHeartbeats 4000000
def left (n : Nat) (k : Int) : Int := if k - n < 0 then -1 else k - n
def markI (k : Int) (n : Nat) : List Int := (List.range n).map fun i : Nat => k + (i : Int)
end Go.Proofs.Ytikennabfbkdhaa

/- The exact laws' own functions, over packages. -/
namespace Go.Proofs.Ytikennabfbkdhaa
open Go
set_option linter.unusedVariables false
set_option linter.unusedSimpArgs false
set_option maxHeartbeats 4000000
end Go.Proofs.Ytikennabfbkdhaa

/- The exact laws' marks over packages: files and deps. -/
namespace Go.Proofs.Ytikennabfbkdhaa
open Go
set_option linter.unusedVariables false
set_option linter.unusedSimpArgs false
set_option maxHeartbeats 4000000
def markF (k : Int) (n : Nat) : List TFile := (List.range n).map fun i : Nat => ⟨k + 2 * (i : Int), k + 2 * (i : Int) + 1⟩
def markD (k : Int) (n : Nat) : List TDep := (List.range n).map fun i : Nat => ⟨k + 2 * (i : Int), k + 2 * (i : Int) + 1⟩
end Go.Proofs.Ytikennabfbkdhaa

/- Packages in memory whose inner slices lie in blocks of their own. -/
namespace Go.Proofs.Ytikennabfbkdhaa
open Go
set_option linter.unusedVariables false
set_option linter.unusedSimpArgs false
set_option maxHeartbeats 4000000
def Two (l : List SV) : Prop := ∀ x, x ∈ l → ∃ a b : Int, x = .ag [iI a, iI b]
def twV : SV → Value
  | .ag [.v x, .v y] => .agg #[x, y]
  | _ => undef
def twL (l : List SV) : List Value := l.map twV
theorem Room.same {w w' : World} {b n sz : Nat} (h : Room w b n sz) (e : w'.heap[b]? = w.heap[b]?) : Room w' b n sz := by
  obtain ⟨cs, t, fz, a, c, d⟩ := h
  exact ⟨cs, t, fz, by rw [e]; exact a, c, d⟩
def In (w : World) (β : Nat) (l : List SV) (s : Value) : Prop :=
  (l = [] ∧ ∃ a c, s = .slice a 0 c) ∨ (l ≠ [] ∧ ∃ cap, s = .slice (some ⟨β, 0, none⟩) l.length cap ∧ l.length ≤ cap ∧ CellsAt w β 0 (flatV (twL l)) ∧ Room w β (cap * 2) 2)
theorem In.heap {w w' : World} {β : Nat} {l : List SV} {s : Value} (h : In w β l s) (e : l ≠ [] → w'.heap[β]? = w.heap[β]?) : In w' β l s := by
  rcases h with h | ⟨h1, cap, h2, h3, h4, h5⟩
  · exact .inl h
  · exact .inr ⟨h1, cap, h2, h3, h4.heap (e h1), h5.same (e h1)⟩
theorem In.one {w : World} {β : Nat} {l : List SV} {s : Value} (h : In w β l s) : s.oneCell' = true := by
  rcases h with ⟨-, a, c, rfl⟩ | ⟨h1, cap, rfl, -⟩ <;> rfl
def gBk : Gh → Nat
  | .blk b _ _ _ => b
  | _ => 0
def gOne (x : Gh) : Nat → Gh := fun i => if i = 0 then x else .no
end Go.Proofs.Ytikennabfbkdhaa

/- slices.Concat of three empty lists of packages, walked; as S says it; a second program of S on top of what all others answer. -/
set_option linter.unusedVariables false
set_option linter.unusedSimpArgs false
namespace Go.Proofs.Ytikennabfbkdhaa
open Go Go.Shelf Go.RowKit Go.Lib Go.Proofs
set_option maxHeartbeats 4000000
set_option maxRecDepth 100000
theorem grow0 (w : World) : Calls Try.prog 83 #[.slice none 0 0, .int .i64 0] w fun e w' => e = .returned (.slice none 0 0) ∧ w' = w := by
  go_enter Try.func83, Try.ntmps83
  go_wp2
  go_ret
  exact ⟨rfl, rfl⟩
theorem app0 (a : Option Addr) (c : Nat) (ty : Nat) (w : World) : (Builtin.append_ #[30, 30] ty #[.slice none 0 0, .slice a 0 c]).run Try.prog w = .ok (.slice none 0 0) w := by
  have h0 : (Try.prog.info? 84).isSome = true := by kernel_rfl
  obtain ⟨info, hi⟩ := Option.isSome_iff_exists.1 h0
  cases a <;> simp [Builtin.append_, run_underlying Try.underlying30, sizeOf, typeInfo, zeroValue, hi, Builtin.lenOf, Builtin.firstCells, loadCells, loadCellsFrom]
theorem concat0 (w : World) (b o c : Nat) (a1 a2 a3 : Option Addr) (c1 c2 c3 : Nat) (h0 : w.cell? ⟨b, o, none⟩ = some (.slice a1 0 c1)) (h1 : w.cell? ⟨b, o + 1, none⟩ = some (.slice a2 0 c2)) (h2 : w.cell? ⟨b, o + 2, none⟩ = some (.slice a3 0 c3)) :
    Calls Try.prog 66 #[.slice (some ⟨b, o, none⟩) 3 c] w fun e w' => e = .returned (.slice none 0 0) ∧ w' = w := by
  go_enter Try.func66, Try.ntmps66
  go_wp2
  refine wp_loop_rounds 4 ?_
  iterate 3 (rw [rounds_succ]; go_wp2)
  rw [rounds_succ]
  go_wp2_with (go_at_call 83; refine (grow0 _).mono ?_; rintro e w1 ⟨rfl, rfl⟩)
  refine wp_loop_rounds 4 ?_
  iterate 3 (rw [rounds_succ]; go_wp2_with (at_builtin; refine Lib.wpList_append_run _ rfl _ _ _ _ rfl _ _ rfl rfl _ _ (app0 _ _ _ _) ?_))
  rw [rounds_succ]
  go_wp2
  go_ret
  exact ⟨rfl, rfl⟩
noncomputable def relF (R : List SV → List SO → SV → List SO → Prop) : List SV → List SO → Out := fun args os =>
  open Classical in if h : ∃ q : SV × List SO, R args os q.1 q.2 then some h.choose else none
theorem relF_some {R : List SV → List SO → SV → List SO → Prop} {args : List SV} {os los : List SO} {r : SV} (h : relF R args os = some (r, los)) : R args os r los := by
  unfold relF at h
  split at h
  · rename_i hq
    have := hq.choose_spec
    rw [Option.some.inj h] at this
    exact this
  · cases h
theorem relF_of {R : List SV → List SO → SV → List SO → Prop} {args : List SV} {os los : List SO} {r : SV} (h : R args os r los) : ∃ r' los', relF R args os = some (r', los') ∧ R args os r' los' := by
  have hq : ∃ q : SV × List SO, R args os q.1 q.2 := ⟨(r, los), h⟩
  refine ⟨hq.choose.1, hq.choose.2, ?_, hq.choose_spec⟩
  unfold relF
  rw [dif_pos hq]
theorem nil_repW {w : World} {B : Nat → Prop} {g : Nat → Gh} {sz : Nat} {v : Value} (h : RepV w B g (.sl sz []) v) : ∃ a c, v = .slice a 0 c := by
  generalize hx : SV.sl sz [] = x at h
  cases h <;> cases hx
  · exact ⟨_, _, rfl⟩
  · exact ⟨_, _, rfl⟩
def CatR (args : List SV) (os : List SO) (r : SV) (los : List SO) : Prop := args = [.sl 1 [.sl 4 [], .sl 4 [], .sl 4 []]] ∧ os = [] ∧ r = .sl 4 [] ∧ los = []
theorem cat_ok : KOK1 Try.prog 66 (relF CatR) := by
  intro args los los' r h
  refine ⟨⟨_, _, Try.func66, by kernel_rfl, rfl⟩, ?_⟩
  obtain ⟨rfl, rfl, rfl, rfl⟩ := relF_some h
  intro A L g vals w hL hm ha
  obtain ⟨v0, vals, rfl, h0, ha⟩ := ha.uncons
  obtain rfl : vals = [] := by have := ha.1; cases vals <;> simp at this ⊢
  generalize hx : SV.sl 1 [SV.sl 4 [], .sl 4 [], .sl 4 []] = x at h0
  cases h0 <;> cases hx
  rename_i vs b o c h1 h2 h3 h4 h5 h6
  match vs, h4, h5, h1 with
  | [v1, v2, v3], _, h5, h1 =>
    obtain ⟨a1, c1, rfl⟩ := nil_repW (h5 0 _ _ rfl rfl)
    obtain ⟨a2, c2, rfl⟩ := nil_repW (h5 1 _ _ rfl rfl)
    obtain ⟨a3, c3, rfl⟩ := nil_repW (h5 2 _ _ rfl rfl)
    have k0 := h1 0 (.slice a1 0 c1) rfl
    have k1 := h1 1 (.slice a2 0 c2) rfl
    have k2 := h1 2 (.slice a3 0 c3) rfl
    refine (concat0 w b o c a1 a2 a3 c1 c2 c3 k0 k1 k2).mono ?_
    rintro e w' ⟨rfl, rfl⟩
    exact ⟨_, g, rfl, hm, fun _ _ _ => rfl, .sl0, Nat.le_refl _⟩
noncomputable def limF (f : Nat) : List SV → List SO → Out := relF fun args os r los => Ex (fun n => callF prg n f args os) r los
theorem ex_one {A : Nat → Out} {x y : SV} {os ps : List SO} (h : Ex A x os) (h' : Ex A y ps) : x = y ∧ os = ps := by
  obtain ⟨n, h⟩ := h
  obtain ⟨m, h'⟩ := h'
  have := (h (n + m) (by omega)).symm.trans (h' (n + m) (by omega))
  cases this
  exact ⟨rfl, rfl⟩
theorem lim_ex {f : Nat} {args : List SV} {os los : List SO} {r : SV} (h : Ex (fun n => callF prg n f args os) r los) : limF f args os = some (r, los) := by
  obtain ⟨r', los', h1, h2⟩ := relF_of (R := fun args os r los => Ex (fun n => callF prg n f args os) r los) h
  obtain ⟨rfl, rfl⟩ := ex_one h h2
  exact h1
theorem lim_ok (f : Nat) : KOK1 Try.prog f (limF f) := by
  intro args los los' r h
  obtain ⟨n0, h0⟩ : Ex (fun n => callF prg n f args los) r los' := relF_some h
  exact callF_ok prgR n0 f args los los' r (h0 n0 (Nat.le_refl _))
def open2 (f : Nat) : Bool := Nat.beq f 3 || Nat.beq f 8 || Nat.beq f 41
noncomputable def prim2 (f : Nat) : Option (List SV → List SO → Out) :=
  match open2 f with
  | true => none
  | false =>
    match Nat.beq f 66 with
    | true => some (relF CatR)
    | false => some (limF f)
noncomputable def prg2 : Prg := { T := tab, own := ownF, pur := purF, code := fun f => (codeL[f]?).getD none, fi := fun f => (fiL[f]?).getD ⟨0, fun _ => ⟨false, []⟩, fun _ => none, fun _ => none⟩, prim := prim2 }
theorem prgR2 : PrgOK Try.prog prg2 where
  tab := tabR
  code := prgR.code
  prim := fun f q h => by
    have h' : prim2 f = some q := h
    unfold prim2 at h'
    split at h'
    · cases h'
    · split at h'
      · rename_i e; cases h'; rw [Nat.eq_of_beq_eq_true e]; exact cat_ok
      · cases h'; exact lim_ok f
  mix := prgR.mix
def shut2 (f : Nat) : Bool := !open2 f && !Nat.beq f 66
theorem prim_call {f : Nat} {q : List SV → List SO → Out} (h : prim2 f = some q) (n : Nat) (args : List SV) (os : List SO) : callF prg2 (n + 1) f args os = q args os := by
  have h' : prg2.prim f = some q := h
  simp only [callF, h']
theorem ex_prim {f : Nat} {q : List SV → List SO → Out} (h : prim2 f = some q) {args : List SV} {os los : List SO} {r : SV} (hq : q args os = some (r, los)) : Ex (fun n => callF prg2 n f args os) r los := ⟨1, fun n hn => by
  obtain ⟨m, rfl⟩ : ∃ m, n = m + 1 := ⟨n - 1, by omega⟩
  exact (prim_call h m args os).trans hq⟩
theorem lift {f : Nat} {args : List SV} {os los : List SO} {r : SV} (h : Ex (fun n => callF prg n f args os) r los) (hf : shut2 f = true) : Ex (fun n => callF prg2 n f args os) r los := by
  refine ex_prim (q := limF f) ?_ (lim_ex h)
  unfold shut2 at hf
  simp only [Bool.and_eq_true, Bool.not_eq_true'] at hf
  obtain ⟨h1, h2⟩ := hf
  unfold prim2
  rw [h1, h2]
theorem liftE {f : Nat} {args : List SV} {os : List SO} {Q : SV → List SO → Prop} (h : Ev (fun n => callF prg n f args os) Q) (hf : shut2 f = true) : Ev (fun n => callF prg2 n f args os) Q := by
  obtain ⟨r, los, hq, he⟩ := h
  exact ⟨r, los, hq, lift he hf⟩
theorem s_Concat0 : Ex (fun n => callF prg2 n 66 [.sl 1 [.sl 4 [], .sl 4 [], .sl 4 []]] []) (.sl 4 []) [] := by
  obtain ⟨r, los, h1, -, -, rfl, rfl⟩ := relF_of (R := CatR) ⟨rfl, rfl, rfl, rfl⟩
  exact ex_prim (q := relF CatR) rfl h1
theorem ev_true2 {k : Nat} {args : List SV} (h : Ev (fun n => callF prg2 n k args []) fun x _ => x = .v (.bool true)) : ∃ n los, callF prg2 n k args [] = some (.v (.bool true), los) := by
  obtain ⟨x, os, rfl, n0, h0⟩ := h
  exact ⟨n0, os, h0 n0 (Nat.le_refl _)⟩
end Go.Proofs.Ytikennabfbkdhaa
