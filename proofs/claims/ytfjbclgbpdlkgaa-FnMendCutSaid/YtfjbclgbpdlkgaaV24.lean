/- The evaluator S and what it says of functions: V20, V21, V22, V23, V24. -/
import Derived.Test.YtfjbclgbpdlkgaaV7
/- Packages in a store: the program's functions, the newest, the same. -/
namespace Go.Proofs.Ytfjbclgbpdlkgaa
open Go
set_option linter.unusedVariables false
set_option linter.unusedSimpArgs false
set_option maxHeartbeats 4000000
theorem Yu (name ver : Int) (F : List TFile) (D : List TDep) (hD : D.length ≤ 2000000) : ∀ i, i ≤ D.length → (∀ j, j < i → Wn name D j) → ∀ (k : Int) (c : Nat), k = i →
    Ev (fun n => Kr (qd prg n) (n + 1) 0 (n + 1 - c) [.ptr 0 0, .sl 2 (D.map je), iI D.length, iI k] [.box [iI name, iI ver, .sl 2 (F.map wq), .sl 2 (D.map je)]]) (Is (bB (Qu name D)) []) := by
  refine zC ?_
  intro i hi ih hp k c hk
  subst hk
  (refine qkY _ ?_; unfold XI)
  repeat' (first|((with_reducible refine eG ?_);first|(with_reducible first|refine qX ?_|refine qY ?_|refine qZ ?_|refine q4 ?_|refine zm ?_)|refine qe rfl ?_|refine qb rfl ?_|((with_reducible refine zn ?_ ?_)<;>intro h))|((with_reducible refine eB ?_);first|((with_reducible first|refine zf ?_ ?_|refine xk ?_ ?_|refine ka ?_ ?_|refine zr ?_ ?_)<;>intro h<;>try (exfalso;omega))|((with_reducible first|refine zi ?_ ?_|refine kG ?_ ?_);· omega)|refine qe rfl ?_|refine qb rfl ?_)|((with_reducible refine eI ?_);first|((with_reducible refine q5 ?_ ?_ ?_);(·rfl);· omega)|(refine qN rfl rfl ?_ ?_;(·first|omega|(simp only [List.length_cons,List.length_nil,List.length_map,List.length_append];omega)))|(refine qO rfl rfl ?_ ?_;(focus omega))|((with_reducible refine q9 ?_ ?_ ?_);(·rfl);· omega)|(refine qS rfl rfl ?_ ?_;(·first|omega|(simp only [List.length_cons,List.length_nil,List.length_map,List.length_append];omega)))|(refine qW rfl rfl ?_ ?_;(focus omega))|refine qe rfl ?_|refine qb rfl ?_)|((with_reducible refine eC ?_);first|((refine zw (qab ..) rfl rfl ?_ rfl rfl ?_ ?_);(focus first|exact .inl rfl|exact .inr rfl|(refine .inr ?_;simp [qo,qm,qh,qg,SO.hasSl,List.all_map,qi,SV.cells,Function.comp_def];done));(all_goals (intro h));(all_goals (try (exfalso;first|omega|exact h rfl|exact h ⟨rfl,rfl,rfl⟩))))|((refine zw (qeR ..) rfl rfl ?_ rfl rfl ?_ ?_);(focus first|exact .inl rfl|exact .inr rfl|(refine .inr ?_;simp [qo,qm,qh,qg,SO.hasSl,List.all_map,qi,SV.cells,Function.comp_def];done));(all_goals (intro h));(all_goals (try (exfalso;first|omega|exact h rfl|exact h ⟨rfl,rfl,rfl⟩)))))|((with_reducible refine eK ?_);first|(with_reducible first|refine qT ?_|refine qU ?_)|((with_reducible refine qr ?_ ?_)<;>intro h))|((with_reducible refine eO ?_);first|refine qe rfl ?_|(refine qB rfl ?_ ?_<;>intro h<;>try (exfalso;simp_all;done))|refine qb rfl ?_|(refine qF rfl ?_ rfl ?_;(focus omega))|(refine qt rfl ?_ rfl ?_ ?_;(focus omega);(all_goals intro h)))|((with_reducible refine eD ?_);first|refine qe rfl ?_|refine qb rfl ?_|((with_reducible refine qC ?_ ?_)<;>intro h))|((with_reducible refine eH ?_);first|refine zA rfl ?_)|(with_reducible first|refine XQ ?_|refine qeM ?_)|((with_reducible refine ih ?_ (zR hp ?_) _ _ ?_)<;>(first|omega|assumption|((unfold Wn;(try simp only [Int.toNat_natCast,kI,kJ] at *);omega))|(simp only [*,List.map_append,List.length_append,List.length_cons,List.length_nil,List.map_cons,List.map_nil];done)|(simp_all;done)|(simp_all;omega)))|refine qq rfl ?_)
  all_goals first | exact ⟨congrArg bB (Eq.symm (wn hp (by omega))), rfl⟩ | exact ⟨congrArg bB (Eq.symm (kD (i := i) (by omega) (by unfold Wn; (try simp only [Int.toNat_natCast, kI, kJ] at *); omega))), rfl⟩ | trace_state
theorem XZ (name ver : Int) (F : List TFile) (D : List TDep) (hF : F.length ≤ 2000000) (hD : D.length ≤ 2000000) : ∀ i, i ≤ F.length → (∀ j, j < i → yi F j) → ∀ (k : Int) (c : Nat), k = i →
    Ev (fun n => qbJ (qd prg n) (n + 1) 0 (n + 1 - c) [.ptr 0 0, .sl 2 (F.map wq), iI F.length, iI k] [.box [iI name, iI ver, .sl 2 (F.map wq), .sl 2 (D.map je)]]) (Is (bB (yT F && Qu name D)) []) := by
  refine zC ?_
  intro i hi ih hp k c hk
  subst hk
  (refine UG97_4 _ ?_; unfold qen)
  repeat' (first|((with_reducible refine eG ?_);first|(with_reducible first|refine qX ?_|refine qY ?_|refine qZ ?_|refine q4 ?_|refine zm ?_)|refine qe rfl ?_|refine qb rfl ?_|((with_reducible refine zn ?_ ?_)<;>intro h))|((with_reducible refine eB ?_);first|((with_reducible first|refine zf ?_ ?_|refine xk ?_ ?_|refine ka ?_ ?_)<;>intro h<;>try (exfalso;omega))|((with_reducible first|refine zi ?_ ?_|refine kG ?_ ?_);· omega)|refine qe rfl ?_|refine qb rfl ?_)|((with_reducible refine eL ?_);first|((with_reducible refine qI ?_ ?_);· rfl)|refine qy rfl rfl ?_|refine qG rfl rfl ?_|refine qz rfl rfl rfl ?_|refine qJ rfl rfl ?_|refine qH rfl rfl ?_|refine qK rfl ?_|refine qe rfl ?_|refine qb rfl ?_)|((with_reducible refine eI ?_);first|((with_reducible refine q5 ?_ ?_ ?_);(·rfl);· omega)|(refine qN rfl rfl ?_ ?_;(·first|omega|(simp only [List.length_cons,List.length_nil,List.length_map,List.length_append];omega)))|(refine qO rfl rfl ?_ ?_;(focus omega))|((with_reducible refine q9 ?_ ?_ ?_);(·rfl);· omega)|(refine qS rfl rfl ?_ ?_;(·first|omega|(simp only [List.length_cons,List.length_nil,List.length_map,List.length_append];omega)))|(refine qW rfl rfl ?_ ?_;(focus omega))|refine qe rfl ?_|refine qb rfl ?_)|((with_reducible refine eC ?_);first|((refine zw (s_in ..) rfl rfl ?_ rfl rfl ?_ ?_);(focus first|exact .inl rfl|exact .inr rfl|(refine .inr ?_;simp [qo,qm,qh,qg,SO.hasSl,List.all_map,qi,SV.cells,Function.comp_def];done));(all_goals (intro h));(all_goals (try (exfalso;first|omega|exact h rfl|exact h ⟨rfl,rfl,rfl⟩)))))|((with_reducible refine eK ?_);first|(with_reducible first|refine qT ?_|refine qU ?_)|((with_reducible refine qr ?_ ?_)<;>intro h))|((with_reducible refine eO ?_);first|refine qe rfl ?_|(refine qB rfl ?_ ?_<;>intro h<;>try (exfalso;simp_all;done))|refine qb rfl ?_|(refine qF rfl ?_ rfl ?_;(focus omega))|(refine qt rfl ?_ rfl ?_ ?_;(focus omega);(all_goals intro h)))|((with_reducible refine eD ?_);first|refine qe rfl ?_|refine qb rfl ?_|((with_reducible refine qC ?_ ?_)<;>intro h))|((with_reducible refine eH ?_);first|refine zA rfl ?_)|(with_reducible first|refine qeL ?_|refine qiD ?_)|(with_reducible first|refine XQ ?_|refine qeM ?_)|((with_reducible refine ih ?_ (zR hp ?_) _ _ ?_)<;>(first|omega|assumption|((unfold yi;(try simp only [Int.toNat_natCast,kI,kJ] at *);omega))|(simp only [*,List.map_append,List.length_append,List.length_cons,List.length_nil,List.map_cons,List.map_nil];done)|(simp_all;done)|(simp_all;omega)))|( ((rw [show (yT F && Qu name D) = Qu name D by rw [show yT F = true from wn hp (by omega),Bool.true_and]]);exact Yu name ver F D hD 0 (by omega) (fun j hj => by omega) 0 _ rfl))|refine qq rfl ?_)
  all_goals first
    | (have hm : yT F = false := kD (i := i) (by omega) (by unfold yi; (try simp only [Int.toNat_natCast, kI, kJ] at *); omega)
       exact ⟨congrArg bB (by simp [hm]), rfl⟩)
    | trace_state
theorem qhl (name ver : Int) (F : List TFile) (D : List TDep) (hF : F.length ≤ 2000000) (hD : D.length ≤ 2000000) : Ex (fun m => qd prg m 97 [.ag [iI name, iI ver, .sl 2 (F.map wq), .sl 2 (D.map je)]] []) (bB (w4 ⟨name, ver, F, D⟩)) [] := by
  refine zz.1 ?_
  (refine U97 (nl := 0) rfl ?_; unfold B97)
  repeat' (first|((with_reducible refine eG ?_);first|(with_reducible first|refine qX ?_|refine qY ?_|refine qZ ?_|refine q4 ?_|refine zm ?_)|refine qe rfl ?_|refine qb rfl ?_|((with_reducible refine zn ?_ ?_)<;>intro h))|((with_reducible refine eB ?_);first|((with_reducible refine ka ?_ ?_)<;>intro h<;>try (exfalso;omega))|refine qe rfl ?_|refine qb rfl ?_)|((with_reducible refine eL ?_);first|((with_reducible refine qI ?_ ?_);· rfl)|refine qy rfl rfl ?_|refine qG rfl rfl ?_|refine qz rfl rfl rfl ?_|refine qJ rfl rfl ?_|refine qH rfl rfl ?_|refine qK rfl ?_|refine qe rfl ?_|refine qb rfl ?_)|((with_reducible refine eC ?_);first|((refine zw (qab ..) rfl rfl ?_ rfl rfl ?_ ?_);(focus first|exact .inl rfl|exact .inr rfl|(refine .inr ?_;simp [qo,qm,qh,qg,SO.hasSl,List.all_map,qi,SV.cells,Function.comp_def];done));(all_goals (intro h));(all_goals (try (exfalso;first|omega|exact h rfl|exact h ⟨rfl,rfl,rfl⟩))))|((refine zw (qeR ..) rfl rfl ?_ rfl rfl ?_ ?_);(focus first|exact .inl rfl|exact .inr rfl|(refine .inr ?_;simp [qo,qm,qh,qg,SO.hasSl,List.all_map,qi,SV.cells,Function.comp_def];done));(all_goals (intro h));(all_goals (try (exfalso;first|omega|exact h rfl|exact h ⟨rfl,rfl,rfl⟩)))))|((with_reducible refine eK ?_);first|(with_reducible first|refine qT ?_|refine qU ?_)|((with_reducible refine qr ?_ ?_)<;>intro h))|((with_reducible refine eO ?_);first|refine qe rfl ?_|(refine qB rfl ?_ ?_<;>intro h<;>try (exfalso;simp_all;done))|refine qb rfl ?_|(refine qF rfl ?_ rfl ?_;(focus omega))|(refine qt rfl ?_ rfl ?_ ?_;(focus omega);(all_goals intro h)))|((with_reducible refine eD ?_);first|refine qe rfl ?_|refine qb rfl ?_|((with_reducible refine qC ?_ ?_)<;>intro h))|((with_reducible refine eH ?_);first|refine zA rfl ?_)|(with_reducible first|refine qeL ?_|refine qiD ?_)|( ((rw [show w4 ⟨name,ver,F,D⟩ = (yT F && Qu name D) by (simp only [w4,wv,y6];rw [decide_eq_true (by omega : 1 ≤ name ∧ name ≤ 4),decide_eq_true (by omega : 1 ≤ ver ∧ ver ≤ 5),decide_eq_true (by omega : F.length ≤ 2),decide_eq_true (by omega : D.length ≤ 2)];simp)]);exact XZ name ver F D hF hD 0 (by omega) (fun j hj => by omega) 0 1 rfl))|refine qq rfl ?_)
  all_goals (refine ⟨congrArg (fun b => SV.v (Value.bool b)) ?_, rfl⟩; first | (simp_all [w4, wv, y6]; done) | (simp_all [w4, wv, y6]; omega) | (simp [w4, wv, y6] at *; omega) | (simp [w4, wv, y6]; omega) | grind [w4, wv, y6] | trace_state)
def cmpI (a b : Int) : Int := if a < b then -1 else if b < a then 1 else 0
theorem qlc (a : Int) : Ex (fun m => qd prg m 116 [iI a] []) (bB false) [] := by
  refine zz.1 ?_
  (refine U116 (nl := 0) rfl ?_; unfold B116)
  repeat' (first|((with_reducible refine eB ?_);first|((with_reducible refine kb ?_ ?_)<;>intro h<;>try (exfalso;omega))|refine qe rfl ?_|refine qb rfl ?_)|((with_reducible refine eD ?_);first|refine qe rfl ?_|refine qb rfl ?_)|refine qq rfl ?_)
  all_goals first | exact ⟨rfl, rfl⟩ | (exfalso; omega) | trace_state
theorem qe2 (a b : Int) : Ex (fun m => qd prg m 113 [iI a, iI b] []) (iI (cmpI a b)) [] := by
  refine zz.1 ?_
  (refine U113 (nl := 0) rfl ?_; unfold B113)
  repeat' (first|((with_reducible refine eB ?_);first|((with_reducible first|refine zf ?_ ?_|refine ka ?_ ?_)<;>intro h<;>try (exfalso;omega))|refine qe rfl ?_|refine qb rfl ?_)|((with_reducible refine eC ?_);first|((refine qk (qlc ..) rfl rfl ?_ rfl ?_);(focus first|exact .inl rfl|exact .inr rfl|(refine .inr ?_;simp [qo,qm,qh,qg,SO.hasSl,List.all_map,qi,SV.cells,Function.comp_def];done))))|((with_reducible refine eK ?_);first|(with_reducible first|refine qT ?_|refine qU ?_)|((with_reducible refine qr ?_ ?_)<;>intro h))|((with_reducible refine eD ?_);first|refine qe rfl ?_|refine qb rfl ?_)|refine qq rfl ?_)
  all_goals exact ⟨congrArg iI (by unfold cmpI; repeat' split <;> omega), rfl⟩
theorem s_Or2 (a b : Int) : Ex (fun m => qd prg m 112 [.sl 1 [iI a, iI b]] []) (iI (if a ≠ 0 then a else b)) [] := by
  refine zz.1 ?_
  (refine U112 (nl := 0) rfl ?_; unfold B112)
  repeat' (first|((with_reducible refine eB ?_);first|((with_reducible first|refine zf ?_ ?_|refine kb ?_ ?_)<;>intro h<;>try (exfalso;omega))|((with_reducible refine zi ?_ ?_);· omega)|refine qe rfl ?_|refine qb rfl ?_)|((with_reducible refine eL ?_);first|((with_reducible refine qI ?_ ?_);· rfl)|refine qy rfl rfl ?_|refine qG rfl rfl ?_|refine qz rfl rfl rfl ?_|refine qJ rfl rfl ?_|refine qH rfl rfl ?_|refine qK rfl ?_|refine qe rfl ?_|refine qb rfl ?_)|((with_reducible refine eI ?_);first|((with_reducible refine q5 ?_ ?_ ?_);(·rfl);· omega)|(refine qN rfl rfl ?_ ?_;(·first|omega|(simp only [List.length_cons,List.length_nil,List.length_map,List.length_append];omega)))|(refine qO rfl rfl ?_ ?_;(focus omega))|((with_reducible refine q9 ?_ ?_ ?_);(·rfl);· omega)|(refine qS rfl rfl ?_ ?_;(·first|omega|(simp only [List.length_cons,List.length_nil,List.length_map,List.length_append];omega)))|(refine qW rfl rfl ?_ ?_;(focus omega))|refine qe rfl ?_|refine qb rfl ?_)|((with_reducible refine eK ?_);first|(with_reducible first|refine qT ?_|refine qU ?_)|((with_reducible refine qr ?_ ?_)<;>intro h))|((with_reducible refine eO ?_);first|refine qe rfl ?_|(refine qB rfl ?_ ?_<;>intro h<;>try (exfalso;simp_all;done))|refine qb rfl ?_|(refine qF rfl ?_ rfl ?_;(focus omega))|(refine qt rfl ?_ rfl ?_ ?_;(focus omega);(all_goals intro h)))|((with_reducible refine eD ?_);first|refine qe rfl ?_|refine qb rfl ?_)|((with_reducible first|refine qeP ?_|refine qk1 ?_);(unfold Wl))|refine qq rfl ?_)
  all_goals first | exact ⟨congrArg iI (by split <;> omega), rfl⟩ | trace_state
theorem qe3 (n v : Int) (F : List TFile) (D : List TDep) (n' v' : Int) (F' : List TFile) (D' : List TDep) : ∃ z : Int, ((z < 0 ↔ (n < n' ∨ n = n' ∧ v < v')) ∧ (z = 0 ↔ (n = n' ∧ v = v'))) ∧
    Ex (fun m => qd prg m 98 [.ag [iI n, iI v, .sl 2 (F.map wq), .sl 2 (D.map je)], .ag [iI n', iI v', .sl 2 (F'.map wq), .sl 2 (D'.map je)]] []) (iI z) [] := by
  refine ⟨if cmpI n n' ≠ 0 then cmpI n n' else cmpI v v', ?_, zz.1 ?_⟩
  · unfold cmpI
    repeat' split
    all_goals omega
  · (refine U98 (nl := 0) rfl ?_; unfold B98)
    repeat' (first|((with_reducible refine eC ?_);first|((refine qk (qe2 ..) rfl rfl ?_ rfl ?_);(focus first|exact .inl rfl|exact .inr rfl|(refine .inr ?_;simp [qo,qm,qh,qg,SO.hasSl,List.all_map,qi,SV.cells,Function.comp_def];done)))|((refine qk (s_Or2 ..) rfl rfl ?_ rfl ?_);(focus first|exact .inl rfl|exact .inr rfl|(refine .inr ?_;simp [qo,qm,qh,qg,SO.hasSl,List.all_map,qi,SV.cells,Function.comp_def];done))))|((with_reducible refine eO ?_);first|refine qe rfl ?_|(refine qB rfl ?_ ?_<;>intro h<;>try (exfalso;simp_all;done))|refine qb rfl ?_|(refine qF rfl ?_ rfl ?_;(focus omega))|(refine qt rfl ?_ rfl ?_ ?_;(focus omega);(all_goals intro h))|(refine zP rfl rfl rfl ?_ ?_ ?_;(·simp);(·first|omega|(simp only [List.length_cons,List.length_nil,List.length_map,List.length_append];omega));intro w))|((with_reducible refine eD ?_);first|refine qe rfl ?_|refine qb rfl ?_)|((with_reducible refine zg ?_ ?_);· intro _;rfl)|refine qq rfl ?_)
    all_goals exact ⟨rfl, rfl⟩
theorem Yv (s : List TPkg) (hs : s.length ≤ 2000000) (hp0 : PL s) : ∀ i, i ≤ s.length → (∀ j, j < i → qbR s j) → ∀ (k : Int) (c : Nat), k = i →
    Ev (fun n => qbq (qd prg n) (n + 1) 0 (n + 1 - c) [.sl 4 (s.map zh), .sl 4 (s.map zh), iI s.length, iI k] []) (Is (bB (kF s)) []) := by
  refine zC ?_
  intro i hi ih hp k c hk
  subst hk
  (refine UG78_2 _ ?_; unfold qd9)
  repeat' (first|((with_reducible refine eG ?_);first|(with_reducible first|refine qX ?_|refine qY ?_|refine qZ ?_|refine q4 ?_|refine zm ?_)|refine qe rfl ?_|refine qb rfl ?_|((with_reducible refine zn ?_ ?_)<;>intro h))|((with_reducible refine eB ?_);first|((with_reducible first|refine zf ?_ ?_|refine ka ?_ ?_|refine wk ?_ ?_)<;>intro h<;>try (exfalso;omega))|((with_reducible first|refine zi ?_ ?_|refine kG ?_ ?_);· omega)|refine qe rfl ?_|refine qb rfl ?_)|((with_reducible refine eI ?_);first|((with_reducible refine q5 ?_ ?_ ?_);(·rfl);· omega)|(refine qN rfl rfl ?_ ?_;(·first|omega|(simp only [List.length_cons,List.length_nil,List.length_map,List.length_append];omega)))|(refine qO rfl rfl ?_ ?_;(focus omega))|((with_reducible refine q9 ?_ ?_ ?_);(·rfl);· omega)|(refine qS rfl rfl ?_ ?_;(·first|omega|(simp only [List.length_cons,List.length_nil,List.length_map,List.length_append];omega)))|(refine qW rfl rfl ?_ ?_;(focus omega))|refine qe rfl ?_|refine qb rfl ?_)|((with_reducible refine eC ?_);first|((refine zT (qhl _ _ _ _ (hp0 _).1 (hp0 _).2) rfl rfl ?_ rfl rfl ?_ ?_);(focus first|exact .inl rfl|exact .inr rfl|(refine .inr ?_;simp [qo,qm,qh,qg,SO.hasSl,List.all_map,qi,SV.cells,Function.comp_def];done));(all_goals (intro h));(all_goals (try (exfalso;simp_all;done))))|((refine z5 (qe3 _ _ _ _ _ _ _ _) rfl rfl ?_ (fun _ => rfl) ?_);(·first|exact .inl rfl|exact .inr (fun _ => rfl));(first|(have q0 := z3;clear q0;intro z4 hz4)|(have q0 := z2;clear q0;intro z3 hz3)|(have q0 := z;clear q0;intro z2 hz2)|(intro z hz))))|((with_reducible refine eK ?_);first|(with_reducible first|refine qT ?_|refine qU ?_)|((with_reducible refine qr ?_ ?_)<;>intro h))|((with_reducible refine eO ?_);first|refine qe rfl ?_|(refine qB rfl ?_ ?_<;>intro h<;>try (exfalso;simp_all;done))|refine qb rfl ?_|(refine qF rfl ?_ rfl ?_;(focus omega))|(refine qt rfl ?_ rfl ?_ ?_;(focus omega);(all_goals intro h)))|((with_reducible refine eD ?_);first|refine qe rfl ?_|refine qb rfl ?_|((with_reducible refine qC ?_ ?_)<;>intro h))|((with_reducible refine eH ?_);first|refine zA rfl ?_)|(with_reducible first|refine qeD ?_|refine qix ?_)|((with_reducible refine ih ?_ (zR hp ?_) _ _ ?_)<;>(first|omega|assumption|((refine ⟨by assumption,fun hi0 => ?_⟩;unfold kr;(try simp only [Int.toNat_natCast,kI,kJ] at *);omega))|(simp only [*,List.map_append,List.length_append,List.length_cons,List.length_nil,List.map_cons,List.map_nil];done)|(simp_all;done)|(simp_all;omega)))|refine qq rfl ?_)
  all_goals first
    | exact ⟨congrArg bB (Eq.symm (wn hp (by omega))), rfl⟩
    | (refine ⟨congrArg bB (Eq.symm (kD (i := i) (by omega) ?_)), rfl⟩; intro hh; have h1 := hh.2 (by omega); unfold kr at h1; (try simp only [Int.toNat_natCast, kI, kJ] at *); omega)
    | (refine ⟨congrArg bB (Eq.symm (kD (i := i) (by omega) ?_)), rfl⟩; intro hh; have h1 := hh.1; exact Bool.noConfusion (h1.symm.trans h))
    | trace_state
theorem qbT (s : List TPkg) (hs : s.length ≤ 2000000) (hp0 : PL s) : Ex (fun m => qd prg m 78 [.sl 4 (s.map zh)] []) (bB (kF s)) [] := by
  refine zz.1 ?_
  (refine U78 (nl := 0) rfl ?_; unfold B78)
  repeat' (first|((with_reducible refine eL ?_);first|((with_reducible refine qI ?_ ?_);· rfl)|refine qy rfl rfl ?_|refine qG rfl rfl ?_|refine qz rfl rfl rfl ?_|refine qJ rfl rfl ?_|refine qH rfl rfl ?_|refine qK rfl ?_|refine qe rfl ?_|refine qb rfl ?_)|((with_reducible refine eD ?_);first|refine qe rfl ?_|refine qb rfl ?_)|((with_reducible refine eH ?_);first|refine zA rfl ?_)|(with_reducible first|refine qeD ?_|refine qix ?_)|( exact Yv s hs hp0 0 (by omega) (fun j hj => by omega) 0 1 rfl)|refine qq rfl ?_)
theorem qbU (s : List TPkg) (hs : s.length ≤ 2000000) (hp0 : PL s) : Ex (fun m => qd prg m 84 [.sl 4 (s.map zh)] []) (bB (kF s)) [] := by
  refine zz.1 ?_
  (refine U84 (nl := 0) rfl ?_; unfold B84)
  repeat' (first|((with_reducible refine eC ?_);first|((refine qk (qhk s hs hp0) rfl rfl ?_ rfl ?_);(focus first|exact .inl rfl|exact .inr rfl|(refine .inr ?_;simp [qo,qm,qh,qg,SO.hasSl,List.all_map,qi,SV.cells,Function.comp_def];done))))|((with_reducible refine eD ?_);first|refine qe rfl ?_|refine qb rfl ?_)|refine qq rfl ?_)
  all_goals exact ⟨rfl, rfl⟩
def Qc (s : List TPkg) (name : Int) : Nat → Int
  | 0 => -1
  | i + 1 => if (nth s i).name = name then i else Qc s name i
theorem Yw {s : List TPkg} {name : Int} {i : Nat} (h : (nth s i).name = name) : Qc s name (i + 1) = i := by rw [Qc, if_pos h]
theorem qaf {s : List TPkg} {name : Int} {i : Nat} (h : (nth s i).name ≠ name) : Qc s name (i + 1) = Qc s name i := by rw [Qc, if_neg h]
theorem Qd (s : List TPkg) (name : Int) : ∀ i, (Qc s name i = -1 ∧ ∀ j, j < i → (nth s j).name ≠ name) ∨ (0 ≤ Qc s name i ∧ Qc s name i < i ∧ (nth s (Qc s name i).toNat).name = name ∧ ∀ j : Nat, Qc s name i < j → j < i → (nth s j).name ≠ name)
  | 0 => .inl ⟨rfl, fun j hj => by omega⟩
  | i + 1 => by
    by_cases e : (nth s i).name = name
    · rw [Yw e]
      exact .inr ⟨by omega, by omega, by simpa using e, fun j h1 h2 => by omega⟩
    · rw [qaf e]
      rcases Qd s name i with ⟨h1, h2⟩ | ⟨h1, h2, h3, h4⟩
      · refine .inl ⟨h1, fun j hj => ?_⟩
        by_cases ej : j = i
        · subst ej; exact e
        · exact h2 j (by omega)
      · refine .inr ⟨h1, by omega, h3, fun j hj hj2 => ?_⟩
        by_cases ej : j = i
        · subst ej; exact e
        · exact h4 j hj (by omega)
def X0 (s : List TPkg) (name : Int) : Int := Qc s name s.length
def zPkg : TPkg := ⟨0, 0, [], []⟩
def kj (s : List TPkg) (name : Int) : TPkg × Bool := if 0 ≤ X0 s name then (nth s (X0 s name).toNat, true) else (zPkg, false)
def qld (s : List TPkg) (name : Int) : TPkg × Bool := if kF s = true then kj s name else (zPkg, false)
def QNew (r : TPkg × Bool) : SV → List SO → Prop := fun x os => ∃ p ok, r = (p, ok) ∧ x = .tup [rPkg p 0 1, bB ok] ∧ os = oPkg p
theorem X1 (l : List TFile) (h47 : l.length ≤ 2000000) : Ex (fun m => qd prg m 108 [.sl 2 (l.map wq)] []) (.osl 0) [.arr false 2 (l.map wq)] := by
  refine ⟨1, fun n hn => ?_⟩
  obtain ⟨n, rfl⟩ : ∃ m, n = m + 1 := ⟨n - 1, by omega⟩
  show qd prg (n + 1) _ _ _ = _
  rw [E108]
  simp only [xd, List.length_map]
  rw [if_pos ⟨.inr trivial, by omega, by omega⟩]
theorem qbV (l : List TDep) (h47 : l.length ≤ 2000000) : Ex (fun m => qd prg m 109 [.sl 2 (l.map je)] []) (.osl 0) [.arr false 2 (l.map je)] := by
  refine ⟨1, fun n hn => ?_⟩
  obtain ⟨n, rfl⟩ : ∃ m, n = m + 1 := ⟨n - 1, by omega⟩
  show qd prg (n + 1) _ _ _ = _
  rw [E109]
  simp only [xd, List.length_map]
  rw [if_pos ⟨.inr trivial, by omega, by omega⟩]
theorem X2 (name ver : Int) (F : List TFile) (D : List TDep) (hF : F.length ≤ 2000000) (hD : D.length ≤ 2000000) : Ex (fun m => qd prg m 93 [.ag [iI name, iI ver, .sl 2 (F.map wq), .sl 2 (D.map je)]] []) (rPkg ⟨name, ver, F, D⟩ 0 1) (oPkg ⟨name, ver, F, D⟩) := by
  refine zz.1 ?_
  (refine U93 (nl := 0) rfl ?_; unfold B93)
  repeat' (first|((with_reducible refine eC ?_);first|((refine qk (X1 _ hF) rfl rfl ?_ rfl ?_);(focus first|exact .inl rfl|exact .inr rfl|(refine .inr ?_;simp [qo,qm,qh,qg,SO.hasSl,List.all_map,qi,SV.cells,Function.comp_def];done)))|((refine qk (qbV _ hD) rfl rfl ?_ rfl ?_);(focus first|exact .inl rfl|exact .inr rfl|(refine .inr ?_;simp [qo,qm,qh,qg,SO.hasSl,List.all_map,qi,SV.cells,Function.comp_def];done))))|((with_reducible refine eO ?_);first|refine qe rfl ?_|(refine qB rfl ?_ ?_<;>intro h<;>try (exfalso;simp_all;done))|refine qb rfl ?_|(refine qF rfl ?_ rfl ?_;(focus omega))|(refine qt rfl ?_ rfl ?_ ?_;(focus omega);(all_goals intro h)))|((with_reducible refine eD ?_);first|refine qe rfl ?_|refine qb rfl ?_)|((with_reducible refine zg ?_ ?_);· intro _;rfl)|refine qq rfl ?_)
  all_goals exact ⟨rfl, rfl⟩
theorem Qv (name ver : Int) (F : List TFile) (D : List TDep) (hF : F.length ≤ 2000000) (hD : D.length ≤ 2000000) : Ex (fun m => qd prg m 102 [.ag [iI name, iI ver, .sl 2 (F.map wq), .sl 2 (D.map je)]] []) (rPkg ⟨name, ver, F, D⟩ 0 1) (oPkg ⟨name, ver, F, D⟩) := by
  refine zz.1 ?_
  (refine U102 (nl := 0) rfl ?_; unfold B102)
  repeat' (first|((with_reducible refine eA ?_);first|(refine kU rfl rfl rfl rfl rfl ?_ ?_;· first|decide|(simp only [List.length_append,List.length_cons,List.length_nil,List.length_map,List.length_take,List.length_drop];omega)))|((with_reducible refine eO ?_);first|refine qe rfl ?_|(refine qB rfl ?_ ?_<;>intro h<;>try (exfalso;simp_all;done))|refine qb rfl ?_|(refine qF rfl ?_ rfl ?_;(focus omega))|(refine qt rfl ?_ rfl ?_ ?_;(focus omega);(all_goals intro h))|(refine zP rfl rfl rfl ?_ ?_ ?_;(·simp);(·first|omega|(simp only [List.length_cons,List.length_nil,List.length_map,List.length_append];omega));intro w))|((with_reducible refine eD ?_);first|refine qe rfl ?_|refine qb rfl ?_)|refine qq rfl ?_)
  all_goals exact ⟨rfl, rfl⟩
theorem Wo (s : List TPkg) (hs : s.length ≤ 2000000) (hp0 : PL s) (name : Int) : ∀ i, i ≤ s.length → X0 s name = Qc s name i → ∀ (k : Int) (c : Nat), k = i - 1 →
    Ev (fun n => Kv (qd prg n) (n + 1) 0 (n + 1 - c) [.sl 4 (s.map zh), iI name, .ptr 0 0, iI k] [.box [iI 0, iI 0, .osl 1, .osl 2], .arr false 2 [], .arr false 2 []]) (QNew (kj s name)) := by
  intro i
  induction i with
  | zero =>
    intro hi hn k c hk
    subst hk
    (refine qeO _ ?_; unfold Wk)
    repeat' (first|((with_reducible refine eB ?_);first|((with_reducible first|refine wk ?_ ?_|refine zr ?_ ?_)<;>intro h<;>try (exfalso;omega))|((with_reducible refine kG ?_ ?_);· omega)|refine qe rfl ?_|refine qb rfl ?_)|((with_reducible refine eI ?_);first|((with_reducible refine q5 ?_ ?_ ?_);(·rfl);· omega)|(refine qN rfl rfl ?_ ?_;(·first|omega|(simp only [List.length_cons,List.length_nil,List.length_map,List.length_append];omega)))|(refine qO rfl rfl ?_ ?_;(focus omega))|((with_reducible refine q9 ?_ ?_ ?_);(·rfl);· omega)|(refine qS rfl rfl ?_ ?_;(·first|omega|(simp only [List.length_cons,List.length_nil,List.length_map,List.length_append];omega)))|(refine qW rfl rfl ?_ ?_;(focus omega))|refine qe rfl ?_|refine qb rfl ?_)|((with_reducible refine eC ?_);first|fail)|((with_reducible refine eK ?_);first|(with_reducible first|refine qT ?_|refine qU ?_)|((with_reducible refine qr ?_ ?_)<;>intro h))|((with_reducible refine eO ?_);first|refine qe rfl ?_|(refine qB rfl ?_ ?_<;>intro h<;>try (exfalso;simp_all;done))|refine qb rfl ?_|(refine qF rfl ?_ rfl ?_;(focus omega))|(refine qt rfl ?_ rfl ?_ ?_;(focus omega);(all_goals intro h)))|((with_reducible refine eD ?_);first|refine qe rfl ?_|refine qb rfl ?_)|refine qq rfl ?_)
    all_goals exact ⟨zPkg, false, by unfold kj; rw [hn]; rfl, rfl, rfl⟩
  | succ i ih =>
    intro hi hn k c hk
    obtain rfl : k = i := by omega
    (refine qeO _ ?_; unfold Wk)
    repeat' (first|((with_reducible refine eB ?_);first|((with_reducible first|refine wk ?_ ?_|refine zr ?_ ?_)<;>intro h<;>try (exfalso;omega))|((with_reducible refine kG ?_ ?_);· omega)|refine qe rfl ?_|refine qb rfl ?_)|((with_reducible refine eI ?_);first|((with_reducible refine q5 ?_ ?_ ?_);(·rfl);· omega)|(refine qN rfl rfl ?_ ?_;(·first|omega|(simp only [List.length_cons,List.length_nil,List.length_map,List.length_append];omega)))|(refine qO rfl rfl ?_ ?_;(focus omega))|((with_reducible refine q9 ?_ ?_ ?_);(·rfl);· omega)|(refine qS rfl rfl ?_ ?_;(·first|omega|(simp only [List.length_cons,List.length_nil,List.length_map,List.length_append];omega)))|(refine qW rfl rfl ?_ ?_;(focus omega))|refine qe rfl ?_|refine qb rfl ?_)|((with_reducible refine eC ?_);first|((refine qk (Qv _ _ _ _ (hp0 _).1 (hp0 _).2) rfl rfl ?_ rfl ?_);(focus first|exact .inl rfl|exact .inr rfl|(refine .inr ?_;simp [qo,qm,qh,qg,SO.hasSl,List.all_map,qi,SV.cells,Function.comp_def];done))))|((with_reducible refine eK ?_);first|(with_reducible first|refine qT ?_|refine qU ?_)|((with_reducible refine qr ?_ ?_)<;>intro h))|((with_reducible refine eO ?_);first|refine qe rfl ?_|(refine qB rfl ?_ ?_<;>intro h<;>try (exfalso;simp_all;done))|refine qb rfl ?_|(refine qF rfl ?_ rfl ?_;(focus omega))|(refine qt rfl ?_ rfl ?_ ?_;(focus omega);(all_goals intro h)))|((with_reducible refine eD ?_);first|refine qe rfl ?_|refine qb rfl ?_)|((with_reducible refine eH ?_);first|refine zA rfl ?_)|(with_reducible first|refine XR ?_|refine qeN ?_)|((with_reducible refine ih ?_ ?_ _ _ ?_)<;>(first|omega|assumption|((rw [hn,qaf (by simpa using h)]))|(simp only [*,List.map_append,List.length_append,List.length_cons,List.length_nil,List.map_cons,List.map_nil];done)|(simp_all;done)|(simp_all;omega)))|refine qq rfl ?_)
    all_goals first
      | (refine ⟨nth s i, true, ?_, rfl, rfl⟩; rw [Yw (by simpa using h)] at hn; unfold kj; rw [hn, if_pos (by omega)]; rfl)
      | trace_state
theorem yU (s : List TPkg) (hs : s.length ≤ 2000000) (hp0 : PL s) (name : Int) : Ev (fun m => qd prg m 104 [.sl 4 (s.map zh), iI name] []) (QNew (kj s name)) := by
  (refine U104 (nl := 0) rfl ?_; unfold B104)
  repeat' (first|((with_reducible refine eB ?_);first|((with_reducible refine kG ?_ ?_);· omega)|refine qe rfl ?_|refine qb rfl ?_)|((with_reducible refine eL ?_);first|((with_reducible refine qI ?_ ?_);· rfl)|refine qy rfl rfl ?_|refine qG rfl rfl ?_|refine qz rfl rfl rfl ?_|refine qJ rfl rfl ?_|refine qH rfl rfl ?_|refine qK rfl ?_|refine qe rfl ?_|refine qb rfl ?_)|((with_reducible refine eD ?_);first|refine qe rfl ?_|refine qb rfl ?_)|((with_reducible refine eH ?_);first|refine zA rfl ?_)|(with_reducible first|refine XR ?_|refine qeN ?_)|( exact Wo s hs hp0 name s.length (by omega) rfl _ _ rfl)|refine qq rfl ?_)
theorem TFile.eq2 {m n : TFile} (h : m.path = n.path ∧ m.data = n.data) : m = n := by cases m; cases n; simp_all
theorem TDep.eq2 {m n : TDep} (h : m.name = n.name ∧ m.least = n.least) : m = n := by cases m; cases n; simp_all
theorem qbW (a b : TPkg) (hl : a.deps.length = b.deps.length) (h47 : a.deps.length ≤ 2000000) : ∀ i, i ≤ a.deps.length → (∀ j, j < i → nth a.deps j = nth b.deps j) → ∀ (k : Int) (c : Nat), k = i →
    Ev (fun n => qbc (qd prg n) (n + 1) 0 (n + 1 - c) (.ptr 0 0) (.ptr 1 0) (iI k) [.box [iI a.name, iI a.ver, .sl 2 (a.files.map wq), .sl 2 (a.deps.map je)], .box [iI b.name, iI b.ver, .sl 2 (b.files.map wq), .sl 2 (b.deps.map je)]]) (Is (bB (decide (a.deps = b.deps))) []) := by
  refine zC ?_
  intro i hi ih hp k c hk
  subst hk
  (refine UL61_9 ?_; unfold qdV)
  repeat' (first|((with_reducible refine eB ?_);first|((with_reducible first|refine zf ?_ ?_|refine kb ?_ ?_)<;>intro h<;>try (exfalso;omega))|((with_reducible refine zi ?_ ?_);· omega)|((with_reducible first|refine Wd ?_ ?_ ?_|refine We ?_ ?_ ?_|refine Wb ?_ ?_ ?_|refine Wc ?_ ?_ ?_);(·rfl);all_goals intro h)|refine qe rfl ?_|refine qb rfl ?_)|((with_reducible refine eL ?_);first|((with_reducible refine qI ?_ ?_);· rfl)|refine qy rfl rfl ?_|refine qG rfl rfl ?_|refine qz rfl rfl rfl ?_|refine qJ rfl rfl ?_|refine qH rfl rfl ?_|refine qK rfl ?_|refine qe rfl ?_|refine qb rfl ?_)|((with_reducible refine eI ?_);first|((with_reducible refine q5 ?_ ?_ ?_);(·rfl);· omega)|(refine qN rfl rfl ?_ ?_;(·first|omega|(simp only [List.length_cons,List.length_nil,List.length_map,List.length_append];omega)))|(refine qO rfl rfl ?_ ?_;(focus omega))|((with_reducible refine q9 ?_ ?_ ?_);(·rfl);· omega)|(refine qS rfl rfl ?_ ?_;(·first|omega|(simp only [List.length_cons,List.length_nil,List.length_map,List.length_append];omega)))|(refine qW rfl rfl ?_ ?_;(focus omega))|refine qe rfl ?_|refine qb rfl ?_)|((with_reducible refine eK ?_);first|(with_reducible first|refine qT ?_|refine qU ?_)|((with_reducible refine qr ?_ ?_)<;>intro h))|((with_reducible refine eO ?_);first|refine qe rfl ?_|(refine qB rfl ?_ ?_<;>intro h<;>try (exfalso;simp_all;done))|refine qb rfl ?_|(refine qF rfl ?_ rfl ?_;(focus omega))|(refine qt rfl ?_ rfl ?_ ?_;(focus omega);(all_goals intro h)))|((with_reducible refine eD ?_);first|refine qe rfl ?_|refine qb rfl ?_)|((with_reducible refine ih ?_ (zR hp ?_) _ _ ?_)<;>(first|omega|assumption|((exact TDep.eq2 (by simpa using h)))|(simp only [*,List.map_append,List.length_append,List.length_cons,List.length_nil,List.map_cons,List.map_nil];done)|(simp_all;done)|(simp_all;omega)))|refine qq rfl ?_)
  · exact ⟨congrArg bB (Eq.symm (decide_eq_false fun e => h (by rw [e]; exact ⟨rfl, rfl⟩))), rfl⟩
  · exact ⟨congrArg bB (Eq.symm (decide_eq_true (yH hl fun j hj => hp j (by omega)))), rfl⟩
theorem qbX (a b : TPkg) (hF : a.files.length = b.files.length) (hl : a.deps.length = b.deps.length) (h46 : a.files.length ≤ 2000000) (h47 : a.deps.length ≤ 2000000) : ∀ i, i ≤ a.files.length → (∀ j, j < i → nth a.files j = nth b.files j) → ∀ (k : Int) (c : Nat), k = i →
    Ev (fun n => qbb (qd prg n) (n + 1) 0 (n + 1 - c) (.ptr 0 0) (.ptr 1 0) (iI k) [.box [iI a.name, iI a.ver, .sl 2 (a.files.map wq), .sl 2 (a.deps.map je)], .box [iI b.name, iI b.ver, .sl 2 (b.files.map wq), .sl 2 (b.deps.map je)]]) (Is (bB (decide (a.files = b.files ∧ a.deps = b.deps))) []) := by
  refine zC ?_
  intro i hi ih hp k c hk
  subst hk
  (refine UL61_4 ?_; unfold qdU)
  repeat' (first|((with_reducible refine eB ?_);first|((with_reducible first|refine zf ?_ ?_|refine kb ?_ ?_)<;>intro h<;>try (exfalso;omega))|((with_reducible refine zi ?_ ?_);· omega)|((with_reducible first|refine Wd ?_ ?_ ?_|refine We ?_ ?_ ?_|refine Wb ?_ ?_ ?_|refine Wc ?_ ?_ ?_);(·rfl);all_goals intro h)|refine qe rfl ?_|refine qb rfl ?_)|((with_reducible refine eL ?_);first|((with_reducible refine qI ?_ ?_);· rfl)|refine qy rfl rfl ?_|refine qG rfl rfl ?_|refine qz rfl rfl rfl ?_|refine qJ rfl rfl ?_|refine qH rfl rfl ?_|refine qK rfl ?_|refine qe rfl ?_|refine qb rfl ?_)|((with_reducible refine eI ?_);first|((with_reducible refine q5 ?_ ?_ ?_);(·rfl);· omega)|(refine qN rfl rfl ?_ ?_;(·first|omega|(simp only [List.length_cons,List.length_nil,List.length_map,List.length_append];omega)))|(refine qO rfl rfl ?_ ?_;(focus omega))|((with_reducible refine q9 ?_ ?_ ?_);(·rfl);· omega)|(refine qS rfl rfl ?_ ?_;(·first|omega|(simp only [List.length_cons,List.length_nil,List.length_map,List.length_append];omega)))|(refine qW rfl rfl ?_ ?_;(focus omega))|refine qe rfl ?_|refine qb rfl ?_)|((with_reducible refine eK ?_);first|(with_reducible first|refine qT ?_|refine qU ?_)|((with_reducible refine qr ?_ ?_)<;>intro h))|((with_reducible refine eO ?_);first|refine qe rfl ?_|(refine qB rfl ?_ ?_<;>intro h<;>try (exfalso;simp_all;done))|refine qb rfl ?_|(refine qF rfl ?_ rfl ?_;(focus omega))|(refine qt rfl ?_ rfl ?_ ?_;(focus omega);(all_goals intro h)))|((with_reducible refine eD ?_);first|refine qe rfl ?_|refine qb rfl ?_)|((with_reducible refine ih ?_ (zR hp ?_) _ _ ?_)<;>(first|omega|assumption|((exact TFile.eq2 (by simpa using h)))|(simp only [*,List.map_append,List.length_append,List.length_cons,List.length_nil,List.map_cons,List.map_nil];done)|(simp_all;done)|(simp_all;omega)))|( ((have he : a.files = b.files := yH hF fun j hj => hp j (by omega));(rw [show decide (a.files = b.files ∧ a.deps = b.deps) = decide (a.deps = b.deps) by simp [he]]);exact qbW a b hl h47 0 (by omega) (fun j hj => by omega) 0 0 rfl))|refine qq rfl ?_)
  · exact ⟨congrArg bB (Eq.symm (decide_eq_false fun e => h (by rw [e.1]; exact ⟨rfl, rfl⟩))), rfl⟩
theorem qle (a b : TPkg) (h46 : a.files.length ≤ 2000000) (h47 : a.deps.length ≤ 2000000) : Ex (fun m => qd prg m 61 [zh a, zh b] []) (bB (decide (a = b))) [] := by
  refine zz.1 ?_
  (refine U61 (nl := 0) rfl ?_; unfold B61)
  repeat' (first|((with_reducible refine eG ?_);first|(with_reducible first|refine qX ?_|refine qY ?_|refine qZ ?_|refine q4 ?_|refine zm ?_)|refine qe rfl ?_|refine qb rfl ?_|((with_reducible refine zn ?_ ?_)<;>intro h))|((with_reducible refine eB ?_);first|((with_reducible refine kb ?_ ?_)<;>intro h<;>try (exfalso;omega))|refine qe rfl ?_|refine qb rfl ?_)|((with_reducible refine eL ?_);first|((with_reducible refine qI ?_ ?_);· rfl)|refine qy rfl rfl ?_|refine qG rfl rfl ?_|refine qz rfl rfl rfl ?_|refine qJ rfl rfl ?_|refine qH rfl rfl ?_|refine qK rfl ?_|refine qe rfl ?_|refine qb rfl ?_)|((with_reducible refine eK ?_);first|(with_reducible first|refine qT ?_|refine qU ?_)|((with_reducible refine qr ?_ ?_)<;>intro h))|((with_reducible refine eO ?_);first|refine qe rfl ?_|(refine qB rfl ?_ ?_<;>intro h<;>try (exfalso;simp_all;done))|refine qb rfl ?_|(refine qF rfl ?_ rfl ?_;(focus omega))|(refine qt rfl ?_ rfl ?_ ?_;(focus omega);(all_goals intro h)))|((with_reducible refine eD ?_);first|refine qe rfl ?_|refine qb rfl ?_|((with_reducible refine qC ?_ ?_)<;>intro h))|( ((rw [show decide (a = b) = decide (a.files = b.files ∧ a.deps = b.deps) by (cases a;cases b;simp_all)]);exact qbX a b (by omega) (by omega) h46 h47 0 (by omega) (fun j hj => by omega) 0 0 rfl))|refine qq rfl ?_)
  all_goals (refine ⟨congrArg bB (Eq.symm (decide_eq_false fun e => ?_)), rfl⟩; subst e; simp_all; done)
end Go.Proofs.Ytfjbclgbpdlkgaa

/- Drawn packages, some of them spoilt. -/
namespace Go.Proofs.Ytfjbclgbpdlkgaa
open Go
set_option linter.unusedVariables false
set_option linter.unusedSimpArgs false
set_option maxHeartbeats 40000000
def QAny (b : List Int) (p : Int) : SV → List SO → Prop := fun x os => ∃ (t : TPkg) (q : Int), x = rPkg t 1 2 ∧ os = [rd b q, .arr false 2 (t.files.map wq), .arr false 2 (t.deps.map je)] ∧ t.files.length ≤ 4 ∧ t.deps.length ≤ 4 ∧ p ≤ q ∧ q ≤ p + 40
theorem qhm {b : List Int} (hb : RdOK b) {p : Int} (hp : 0 ≤ p ∧ p < 600000000) : Ev (fun m => qd prg m 94 [.ptr 0 0] [rd b p]) (QAny b p) := by
  (refine U94 (nl := 1) rfl ?_; unfold B94)
  repeat' (first|((with_reducible refine eB ?_);first|((with_reducible refine zr ?_ ?_)<;>intro h<;>try (exfalso;omega))|((with_reducible refine zi ?_ ?_);· omega)|refine qe rfl ?_|refine qb rfl ?_)|((with_reducible refine eI ?_);first|((with_reducible refine q5 ?_ ?_ ?_);(·rfl);· omega)|(refine qN rfl rfl ?_ ?_;(·first|omega|(simp only [List.length_cons,List.length_nil,List.length_map,List.length_append];omega)))|(refine qO rfl rfl ?_ ?_;(focus omega))|((with_reducible refine q9 ?_ ?_ ?_);(·rfl);· omega)|(refine qS rfl rfl ?_ ?_;(·first|omega|(simp only [List.length_cons,List.length_nil,List.length_map,List.length_append];omega)))|(refine qW rfl rfl ?_ ?_;(focus omega))|refine qe rfl ?_|refine qb rfl ?_)|((with_reducible refine eC ?_);first|((refine z5 (kV hb (by omega) _ (by omega)) rfl rfl ?_ (fun _ => rfl) ?_);(·first|exact .inl rfl|exact .inr (fun _ => rfl));(first|(have q0 := z3;clear q0;intro z4 hz4)|(have q0 := z2;clear q0;intro z3 hz3)|(have q0 := z;clear q0;intro z2 hz2)|(intro z hz)))|((refine zk (qac hb (by omega) _ _) rfl rfl ?_);((rintro _ _ ⟨t,q,rfl,rfl,hf,hd,hq1,hq2⟩)<;>(first|(refine zF ?_ rfl ?_;(focus first|exact .inl rfl|exact .inr rfl|(refine .inr ?_;simp [qo,qm,qh,qg,SO.hasSl,List.all_map,qi,SV.cells,Function.comp_def];done)))|(refine zl ?_ rfl ?_;(focus first|rfl|(simp [qo,qm,qh,qg,SO.hasSl,List.all_map,qi,SV.cells,Function.comp_def];done)))))))|((with_reducible refine eA ?_);first|(refine kU rfl rfl rfl rfl rfl ?_ ?_;· first|decide|(simp only [List.length_append,List.length_cons,List.length_nil,List.length_map,List.length_take,List.length_drop];omega)))|((with_reducible refine eK ?_);first|(with_reducible first|refine qT ?_|refine qU ?_)|((with_reducible refine qr ?_ ?_)<;>intro h))|((with_reducible refine eO ?_);first|refine qe rfl ?_|(refine qB rfl ?_ ?_<;>intro h<;>try (exfalso;simp_all;done))|refine qb rfl ?_|(refine qF rfl ?_ rfl ?_;(focus omega))|(refine qt rfl ?_ rfl ?_ ?_;(focus omega);(all_goals intro h))|(refine zP rfl rfl rfl ?_ ?_ ?_;(·simp);(·first|omega|(simp only [List.length_cons,List.length_nil,List.length_map,List.length_append];omega));intro w))|((with_reducible refine eD ?_);first|refine qe rfl ?_|refine qb rfl ?_)|((with_reducible refine zg ?_ ?_);· intro _;rfl)|((with_reducible refine qkV ?_);(unfold XH))|refine qq rfl ?_)
  all_goals first
    | exact ⟨⟨_, _, t.files, t.deps⟩, _, rfl, rfl, by show t.files.length ≤ 4; omega, by show t.deps.length ≤ 4; omega, by omega, by omega⟩
    | exact ⟨⟨t.name, w, t.files, t.deps⟩, _, rfl, rfl, by show t.files.length ≤ 4; omega, by show t.deps.length ≤ 4; omega, by omega, by omega⟩
    | (rename_i u1 hu1 u2 hu2; exact ⟨⟨_, _, t.files ++ [⟨u2, z4⟩], t.deps⟩, _, rfl, by rw [List.map_append]; rfl, by simp only [List.length_append, List.length_cons, List.length_nil]; omega, by show t.deps.length ≤ 4; omega, by omega, by omega⟩)
    | (rename_i u1 hu1 u2 hu2; exact ⟨⟨_, _, t.files, t.deps ++ [⟨u2, z4⟩]⟩, _, rfl, by rw [List.map_append]; rfl, by show t.files.length ≤ 4; omega, by simp only [List.length_append, List.length_cons, List.length_nil]; omega, by omega, by omega⟩)
    | trace_state
def QOff (b : List Int) (p : Int) : SV → List SO → Prop := fun x os => ∃ (s : List TPkg) (q : Int), x = .osl 1 ∧ os = [rd b q, .arr false 4 (s.map zh)] ∧ s.length ≤ 9 ∧ kh s ∧ p ≤ q ∧ q ≤ p + 400
theorem qbY {s : List TPkg} {t : TPkg} (hs : kh s) (h : ZT t) : kh (s ++ [t]) := by
  intro x hx
  rcases List.mem_append.1 hx with h1 | h1
  · exact hs x h1
  · rw [List.mem_singleton.1 h1]; exact h
theorem qbZ {s : List TPkg} {t : TPkg} {i : Nat} (hs : kh s) (h : ZT t) : kh (s.set i t) := by
  intro x hx
  rcases List.mem_or_eq_of_mem_set hx with h1 | h1
  · exact hs x h1
  · rw [h1]; exact h
theorem qag {b : List Int} (hb : RdOK b) {p : Int} (hp : 0 ≤ p ∧ p < 500000000) : Ev (fun m => qd prg m 75 [.ptr 0 0] [rd b p]) (QOff b p) := by
  (refine U75 (nl := 1) rfl ?_; unfold B75)
  repeat' (first|((with_reducible refine eB ?_);first|((with_reducible first|refine ka ?_ ?_|refine zr ?_ ?_)<;>intro h<;>try (exfalso;omega))|refine qe rfl ?_|refine qb rfl ?_)|((with_reducible refine eL ?_);first|((with_reducible refine qI ?_ ?_);· rfl)|refine qy rfl rfl ?_|refine qG rfl rfl ?_|refine qz rfl rfl rfl ?_|refine qJ rfl rfl ?_|refine qH rfl rfl ?_|refine qK rfl ?_|refine qe rfl ?_|refine qb rfl ?_)|((with_reducible refine eI ?_);first|((with_reducible refine q5 ?_ ?_ ?_);(·rfl);· omega)|(refine qN rfl rfl ?_ ?_;(·first|omega|(simp only [List.length_cons,List.length_nil,List.length_map,List.length_append];omega)))|(refine qO rfl rfl ?_ ?_;(focus omega))|((with_reducible refine q9 ?_ ?_ ?_);(·rfl);· omega)|(refine qS rfl rfl ?_ ?_;(·first|omega|(simp only [List.length_cons,List.length_nil,List.length_map,List.length_append];omega)))|(refine qW rfl rfl ?_ ?_;(focus omega))|refine qe rfl ?_|refine qb rfl ?_)|((with_reducible refine eC ?_);first|((refine z5 (kV hb (by omega) _ (by omega)) rfl rfl ?_ (fun _ => rfl) ?_);(·first|exact .inl rfl|exact .inr (fun _ => rfl));(first|(have q0 := z3;clear q0;intro z4 hz4)|(have q0 := z2;clear q0;intro z3 hz3)|(have q0 := z;clear q0;intro z2 hz2)|(intro z hz)))|((refine zk (Zt hb (by omega)) rfl rfl ?_);((rintro _ _ ⟨s,q,rfl,rfl,hs,hsm,hq1,hq2⟩)<;>(first|(refine zF ?_ rfl ?_;(focus first|exact .inl rfl|exact .inr rfl|(refine .inr ?_;simp [qo,qm,qh,qg,SO.hasSl,List.all_map,qi,SV.cells,Function.comp_def];done)))|(refine zl ?_ rfl ?_;(focus first|rfl|(simp [qo,qm,qh,qg,SO.hasSl,List.all_map,qi,SV.cells,Function.comp_def];done))))))|((refine zk (qhm hb (by omega)) rfl rfl ?_);((rintro _ _ ⟨t,q',rfl,rfl,hf,hd,hq3,hq4⟩)<;>(first|(refine zF ?_ rfl ?_;(focus first|exact .inl rfl|exact .inr rfl|(refine .inr ?_;simp [qo,qm,qh,qg,SO.hasSl,List.all_map,qi,SV.cells,Function.comp_def];done)))|(refine zl ?_ rfl ?_;(focus first|rfl|(simp [qo,qm,qh,qg,SO.hasSl,List.all_map,qi,SV.cells,Function.comp_def];done)))))))|((with_reducible refine eA ?_);first|(refine kU rfl rfl rfl rfl rfl ?_ ?_;· first|decide|(simp only [List.length_append,List.length_cons,List.length_nil,List.length_map,List.length_take,List.length_drop];omega)))|((with_reducible refine eK ?_);first|(with_reducible first|refine qT ?_|refine qU ?_)|((with_reducible refine qr ?_ ?_)<;>intro h))|((with_reducible refine eD ?_);first|refine qe rfl ?_|refine qb rfl ?_|( (refine wr (f := zh) (a := t) rfl rfl rfl rfl rfl rfl rfl rfl ?_ rfl ?_;(focus omega))))|((with_reducible refine UJ75_8 ?_);(unfold qd7))|refine qq rfl ?_)
  all_goals first
    | exact ⟨s, _, rfl, rfl, by omega, hsm, by omega, by omega⟩
    | exact ⟨s ++ [t], _, rfl, by rw [List.map_append]; rfl, by simp only [List.length_append, List.length_cons, List.length_nil]; omega, qbY hsm ⟨by omega, by omega⟩, by omega, by omega⟩
    | exact ⟨_, _, rfl, rfl, by rw [List.length_set]; omega, qbZ hsm ⟨by omega, by omega⟩, by omega, by omega⟩
    | trace_state
end Go.Proofs.Ytfjbclgbpdlkgaa

/- What holds of the newest in a store. -/
namespace Go.Proofs.Ytfjbclgbpdlkgaa
open Go
set_option linter.unusedVariables false
set_option linter.unusedSimpArgs false
theorem qyes : qk5 (.v (.bool true)) [] := rfl
theorem ww {s : List TPkg} : kF s = true ↔ ∀ i, i < s.length → qbR s i := by simp [kF]
theorem qb0 {s : List TPkg} (h : kF s = true) : ∀ j i, i < j → j < s.length → kr (nth s i) (nth s j) := by
  intro j
  induction j with
  | zero => intro i hi; omega
  | succ j ih =>
    intro i hi hj
    have h1 := (ww.1 h (j + 1) hj).2 (by omega)
    simp only [Nat.add_sub_cancel] at h1
    by_cases e : i = j
    · subst e; exact h1
    · have := ih i (by omega) (by omega)
      unfold kr at *; omega
theorem w5 {s : List TPkg} {name : Int} {p : TPkg} (h : kj s name = (p, true)) : p ∈ s ∧ p.name = name ∧ ∃ j, j < s.length ∧ p = nth s j ∧ ∀ i, j < i → i < s.length → (nth s i).name ≠ name := by
  unfold kj at h
  split at h
  · rename_i h0
    obtain ⟨rfl, -⟩ := Prod.mk.inj h
    rcases Qd s name s.length with ⟨h1, h2⟩ | ⟨h1, h2, h3, h4⟩
    · unfold X0 at h0; omega
    · have hlt : (X0 s name).toNat < s.length := by unfold X0; omega
      refine ⟨zX hlt, h3, _, hlt, rfl, fun i hi hi2 => h4 i ?_ hi2⟩
      unfold X0 at hi; omega
  · cases h
theorem Qw {s : List TPkg} {name : Int} {p : TPkg} (h : kj s name = (p, false)) : p = zPkg ∧ ∀ x, x ∈ s → x.name ≠ name := by
  unfold kj at h
  split at h
  · cases h
  · rename_i h0
    obtain ⟨rfl, -⟩ := Prod.mk.inj h
    refine ⟨rfl, fun x hx => ?_⟩
    rcases Qd s name s.length with ⟨h1, h2⟩ | ⟨h1, h2, h3, h4⟩
    · obtain ⟨j, hj, rfl⟩ := kK hx
      exact h2 j hj
    · exact absurd h1 h0
theorem qe4 {s : List TPkg} {name : Int} {p : TPkg} (hs : kF s = true) (h : kj s name = (p, true)) {x : TPkg} (hx : x ∈ s) (hn : x.name = name) : x = p ∨ x.ver < p.ver := by
  obtain ⟨h1, h2, j, hj, rfl, h3⟩ := w5 h
  obtain ⟨i, hi, rfl⟩ := kK hx
  by_cases e : i = j
  · subst e; exact .inl rfl
  · have : i < j := by
      by_cases e2 : j < i
      · exact absurd hn (h3 i e2 hi)
      · omega
    have := qb0 hs j i this hj
    unfold kr at this
    right; omega
end Go.Proofs.Ytfjbclgbpdlkgaa

/- Packages that can be in together. -/
namespace Go.Proofs.Ytfjbclgbpdlkgaa
open Go
set_option linter.unusedVariables false
set_option linter.unusedSimpArgs false
set_option maxHeartbeats 4000000
def wu (s : List TPkg) (dn dl : Int) : Prop := ∃ p, p ∈ s ∧ (p.name = dn ∧ dl ≤ p.ver)
instance (s : List TPkg) (dn dl : Int) : Decidable (wu s dn dl) := by unfold wu; exact inferInstance
def wx (s : List TPkg) (n : Nat) (x : Int) : Prop := ∃ j, j < n ∧ ∃ f, f ∈ (nth s j).files ∧ f.path = x
instance (s : List TPkg) (n : Nat) (x : Int) : Decidable (wx s n x) := by unfold wx; exact inferInstance
def xl (s : List TPkg) (i : Nat) : Prop := ∀ j, j < (nth s i).deps.length → wu s (nth (nth s i).deps j).name (nth (nth s i).deps j).least
instance (s : List TPkg) (i : Nat) : Decidable (xl s i) := by unfold xl; exact inferInstance
def kX (s : List TPkg) (i : Nat) : Prop := ∀ j, j < (nth s i).files.length → ¬ wx s i (nth (nth s i).files j).path
instance (s : List TPkg) (i : Nat) : Decidable (kX s i) := by unfold kX; exact inferInstance
def Zu (s : List TPkg) (i : Nat) : Prop := 0 < i → (nth s (i - 1)).name < (nth s i).name
instance (s : List TPkg) (i : Nat) : Decidable (Zu s i) := by unfold Zu; exact inferInstance
def qhn (s : List TPkg) : Bool := decide (∀ i, i < s.length → Zu s i)
def Qx (s : List TPkg) (i : Nat) : Prop := Zu s i ∧ xl s i ∧ kX s i
instance (s : List TPkg) (i : Nat) : Decidable (Qx s i) := by unfold Qx; exact inferInstance
def Ja (s : List TPkg) : Bool := decide (∀ i, i < s.length → Qx s i)
def zo (s : List TPkg) : Bool := kF s && Ja s
theorem KC {s : List TPkg} : zo s = true ↔ kF s = true ∧ ∀ i, i < s.length → Qx s i := by simp [zo, Ja]
theorem Yx {s : List TPkg} (hs : kF s = true) {dn dl : Int} {p : TPkg} {ok : Bool} (h : kj s dn = (p, ok)) : wu s dn dl ↔ ok = true ∧ dl ≤ p.ver := by
  cases ok with
  | true =>
    obtain ⟨h1, h2, -⟩ := w5 h
    constructor
    · rintro ⟨q, hq, e1, e2⟩
      rcases qe4 hs h hq e1 with rfl | e3
      · exact ⟨rfl, e2⟩
      · exact ⟨rfl, by omega⟩
    · rintro ⟨-, e⟩; exact ⟨p, h1, h2, e⟩
  | false =>
    obtain ⟨-, h2⟩ := Qw h
    constructor
    · rintro ⟨q, hq, e1, -⟩; exact absurd e1 (h2 q hq)
    · rintro ⟨e, -⟩; cases e
theorem qb1 (s : List TPkg) (hs : s.length ≤ 2000000) (hp0 : PL s) (hok : kF s = true) (dn dl : Int) : Ex (fun m => qd prg m 86 [.sl 4 (s.map zh), .ag [iI dn, iI dl]] []) (bB (decide (wu s dn dl))) [] := by
  refine zz.1 ?_
  (refine U86 (nl := 0) rfl ?_; unfold B86)
  repeat' (first|((with_reducible refine eG ?_);first|(with_reducible first|refine qX ?_|refine qY ?_|refine qZ ?_|refine q4 ?_|refine zm ?_)|refine qe rfl ?_|refine qb rfl ?_|((with_reducible refine zn ?_ ?_)<;>intro h))|((with_reducible refine eB ?_);first|((with_reducible refine wk ?_ ?_)<;>intro h<;>try (exfalso;omega))|refine qe rfl ?_|refine qb rfl ?_)|((with_reducible refine eC ?_);first|((refine zk (yU s hs hp0 dn) rfl rfl ?_);((rintro _ _ ⟨p,ok,h1,rfl,rfl⟩)<;>(((have hb := Yx (dl := dl) hok h1);(rcases ok with _|_)))<;>(first|(refine zF ?_ rfl ?_;(focus first|exact .inl rfl|exact .inr rfl|(refine .inr ?_;simp [qo,qm,qh,qg,SO.hasSl,List.all_map,qi,SV.cells,Function.comp_def];done)))|(refine zl ?_ rfl ?_;(focus first|rfl|(simp [qo,qm,qh,qg,SO.hasSl,List.all_map,qi,SV.cells,Function.comp_def];done)))))))|((with_reducible refine eO ?_);first|refine qe rfl ?_|(refine qB rfl ?_ ?_<;>intro h<;>try (exfalso;simp_all;done))|refine qb rfl ?_|(refine qF rfl ?_ rfl ?_;(focus omega))|(refine qt rfl ?_ rfl ?_ ?_;(focus omega);(all_goals intro h)))|((with_reducible refine eD ?_);first|refine qe rfl ?_|refine qb rfl ?_|((with_reducible refine qC ?_ ?_)<;>intro h))|refine qq rfl ?_)
  all_goals exact ⟨congrArg bB (by simp [hb, *]), rfl⟩
theorem qb2 (s : List TPkg) (hs : s.length ≤ 2000000) : ∀ i, i ≤ s.length + 1 → 1 ≤ i → (∀ j, j < i → Zu s j) → ∀ (k : Int) (c : Nat), k = i →
    Ev (fun n => qbt (qd prg n) (n + 1) 0 (n + 1 - c) (.sl 4 (s.map zh)) (iI k) []) (Is (bB (qhn s)) []) := by
  refine zC ?_
  intro i hi ih h1 hp k c hk
  subst hk
  (refine UL85_2 ?_; unfold qeb)
  repeat' (first|((with_reducible refine eB ?_);first|((with_reducible first|refine zf ?_ ?_|refine wk ?_ ?_)<;>intro h<;>try (exfalso;omega))|((with_reducible first|refine zi ?_ ?_|refine kG ?_ ?_);· omega)|refine qe rfl ?_|refine qb rfl ?_)|((with_reducible refine eL ?_);first|((with_reducible refine qI ?_ ?_);· rfl)|refine qy rfl rfl ?_|refine qG rfl rfl ?_|refine qz rfl rfl rfl ?_|refine qJ rfl rfl ?_|refine qH rfl rfl ?_|refine qK rfl ?_|refine qe rfl ?_|refine qb rfl ?_)|((with_reducible refine eI ?_);first|((with_reducible refine q5 ?_ ?_ ?_);(·rfl);· omega)|(refine qN rfl rfl ?_ ?_;(·first|omega|(simp only [List.length_cons,List.length_nil,List.length_map,List.length_append];omega)))|(refine qO rfl rfl ?_ ?_;(focus omega))|((with_reducible refine q9 ?_ ?_ ?_);(·rfl);· omega)|(refine qS rfl rfl ?_ ?_;(·first|omega|(simp only [List.length_cons,List.length_nil,List.length_map,List.length_append];omega)))|(refine qW rfl rfl ?_ ?_;(focus omega))|refine qe rfl ?_|refine qb rfl ?_)|((with_reducible refine eK ?_);first|(with_reducible first|refine qT ?_|refine qU ?_)|((with_reducible refine qr ?_ ?_)<;>intro h))|((with_reducible refine eO ?_);first|refine qe rfl ?_|(refine qB rfl ?_ ?_<;>intro h<;>try (exfalso;simp_all;done))|refine qb rfl ?_|(refine qF rfl ?_ rfl ?_;(focus omega))|(refine qt rfl ?_ rfl ?_ ?_;(focus omega);(all_goals intro h)))|((with_reducible refine eD ?_);first|refine qe rfl ?_|refine qb rfl ?_)|((with_reducible refine ih ?_ ?_ (zR hp ?_) _ _ ?_)<;>(first|omega|assumption|((unfold Zu;(try simp only [Int.toNat_natCast,kI,kJ] at *);omega))|(simp only [*,List.map_append,List.length_append,List.length_cons,List.length_nil,List.map_cons,List.map_nil];done)|(simp_all;done)|(simp_all;omega)))|refine qq rfl ?_)
  all_goals first | exact ⟨congrArg bB (Eq.symm (wn hp (by omega))), rfl⟩ | exact ⟨congrArg bB (Eq.symm (kD (i := i) (by omega) (by unfold Zu; (try simp only [Int.toNat_natCast, kI, kJ] at *); omega))), rfl⟩ | trace_state
theorem qho (s : List TPkg) (hs : s.length ≤ 2000000) : Ex (fun m => qd prg m 85 [.sl 4 (s.map zh)] []) (bB (qhn s)) [] := by
  refine zz.1 ?_
  (refine U85 (nl := 0) rfl ?_; unfold B85)
  exact qb2 s hs 1 (by omega) (by omega) (fun j hj h0 => by omega) 1 0 rfl
theorem KD {s : List TPkg} {i : Nat} {x : Int} : wx s (i + 1) x ↔ wx s i x ∨ ∃ f, f ∈ (nth s i).files ∧ f.path = x := by
  unfold wx
  constructor
  · rintro ⟨j, hj, h⟩
    by_cases e : j = i
    · subst e; exact .inr h
    · exact .inl ⟨j, by omega, h⟩
  · rintro (⟨j, hj, h⟩ | h)
    · exact ⟨j, by omega, h⟩
    · exact ⟨i, by omega, h⟩
def QOwn (s : List TPkg) (b : Nat) (x : Int) : SV → List SO → Prop := fun y os => ∃ z : Int, y = iI z ∧ os = [] ∧ (0 ≤ z ↔ wx s b x)
theorem Wp (s : List TPkg) (hs : s.length ≤ 2000000) (hp0 : PL s) (b : Nat) (hb : b ≤ s.length) (x : Int) (m2 : Nat → Nat) (i : Nat) (hi : i < b)
    (hq : (∀ f, f ∈ (nth s i).files → f.path ≠ x) → Ev (fun n => XD (qd prg n) (n + 1) 0 (m2 n) (.sl 4 (s.map zh)) (iI b) (iI x) (iI ((i : Int) + 1)) []) (QOwn s b x)) : ∀ j, j ≤ (nth s i).files.length → (∀ k, k < j → (nth (nth s i).files k).path ≠ x) → ∀ (k : Int) (c : Nat), k = j →
    Ev (fun n => qbu (qd prg n) (n + 1) 0 (m2 n) (n + 1 - c) (.sl 4 (s.map zh)) (iI b) (iI x) (iI i) (iI k) []) (QOwn s b x) := by
  have hpi := hp0 i
  refine zC ?_
  intro j hj ih hp k c hk
  subst hk
  (refine UL87_5 ?_; unfold qed)
  repeat' (first|((with_reducible refine eB ?_);first|((with_reducible first|refine zf ?_ ?_|refine zr ?_ ?_)<;>intro h<;>try (exfalso;omega))|((with_reducible refine zi ?_ ?_);· omega)|refine qe rfl ?_|refine qb rfl ?_)|((with_reducible refine eL ?_);first|((with_reducible refine qI ?_ ?_);· rfl)|refine qy rfl rfl ?_|refine qG rfl rfl ?_|refine qz rfl rfl rfl ?_|refine qJ rfl rfl ?_|refine qH rfl rfl ?_|refine qK rfl ?_|refine qe rfl ?_|refine qb rfl ?_)|((with_reducible refine eI ?_);first|((with_reducible refine q5 ?_ ?_ ?_);(·rfl);· omega)|(refine qN rfl rfl ?_ ?_;(·first|omega|(simp only [List.length_cons,List.length_nil,List.length_map,List.length_append];omega)))|(refine qO rfl rfl ?_ ?_;(focus omega))|((with_reducible refine q9 ?_ ?_ ?_);(·rfl);· omega)|(refine qS rfl rfl ?_ ?_;(·first|omega|(simp only [List.length_cons,List.length_nil,List.length_map,List.length_append];omega)))|(refine qW rfl rfl ?_ ?_;(focus omega))|refine qe rfl ?_|refine qb rfl ?_)|((with_reducible refine eK ?_);first|(with_reducible first|refine qT ?_|refine qU ?_)|((with_reducible refine qr ?_ ?_)<;>intro h))|((with_reducible refine eO ?_);first|refine qe rfl ?_|(refine qB rfl ?_ ?_<;>intro h<;>try (exfalso;simp_all;done))|refine qb rfl ?_|(refine qF rfl ?_ rfl ?_;(focus omega))|(refine qt rfl ?_ rfl ?_ ?_;(focus omega);(all_goals intro h)))|((with_reducible refine eD ?_);first|refine qe rfl ?_|refine qb rfl ?_)|((with_reducible refine ih ?_ (zR hp ?_) _ _ ?_)<;>(first|omega|assumption|(simp only [*,List.map_append,List.length_append,List.length_cons,List.length_nil,List.map_cons,List.map_nil];done)|(simp_all;done)|(simp_all;omega)))|( exact hq fun f hf => by (obtain ⟨y,hy,rfl⟩ := kK hf;exact hp y (by omega)))|refine qq rfl ?_)
  all_goals (refine ⟨_, rfl, rfl, ⟨fun _ => ⟨i, hi, _, zX (l := (nth s i).files) (k := j) (by omega), by simpa using h⟩, fun _ => by omega⟩⟩)
theorem Wq (s : List TPkg) (hs : s.length ≤ 2000000) (hp0 : PL s) (b : Nat) (hb : b ≤ s.length) (x : Int) : ∀ i, i ≤ b → ¬ wx s i x → ∀ (k : Int) (c : Nat), k = i →
    Ev (fun n => XD (qd prg n) (n + 1) 0 (n + 1 - c) (.sl 4 (s.map zh)) (iI b) (iI x) (iI k) []) (QOwn s b x) := by
  refine zC ?_
  intro i hi ih hp k c hk
  subst hk
  (refine UL87_2 ?_; unfold qec)
  repeat' (first|((with_reducible refine eB ?_);first|((with_reducible refine zf ?_ ?_)<;>intro h<;>try (exfalso;omega))|refine qe rfl ?_|refine qb rfl ?_)|((with_reducible refine eK ?_);first|(with_reducible first|refine qT ?_|refine qU ?_)|((with_reducible refine qr ?_ ?_)<;>intro h))|((with_reducible refine eD ?_);first|refine qe rfl ?_|refine qb rfl ?_)|( exact Wp s hs hp0 b hb x _ i (by omega) (fun hf => ih (by omega) (by (rw [KD];rintro (h1|⟨f,h1,h2⟩);exact hp h1;exact hf f h1 h2)) _ _ rfl) 0 (by omega) (fun k hk => by omega) 0 0 rfl)|refine qq rfl ?_)
  obtain rfl : i = b := by omega
  exact ⟨_, rfl, rfl, ⟨fun h => by omega, fun h => absurd h hp⟩⟩
theorem qb3 (s : List TPkg) (hs : s.length ≤ 2000000) (hp0 : PL s) (b : Nat) (hb : b ≤ s.length) (x : Int) : ∃ z : Int, (0 ≤ z ↔ wx s b x) ∧ Ex (fun m => qd prg m 87 [.sl 4 (s.map zh), iI b, iI x] []) (iI z) [] := by
  have key : Ev (fun m => qd prg m 87 [.sl 4 (s.map zh), iI b, iI x] []) (QOwn s b x) := by
    (refine U87 (nl := 0) rfl ?_; unfold B87)
    exact Wq s hs hp0 b hb x 0 (by omega) (by rintro ⟨j, hj, -⟩; omega) 0 0 rfl
  obtain ⟨_, _, ⟨z, rfl, rfl, hz⟩, he⟩ := key
  exact ⟨z, hz, he⟩
theorem Wr (s : List TPkg) (hs : s.length ≤ 2000000) (hp0 : PL s) {Q : SV → List SO → Prop} (m4 : Nat → Nat) (i : Nat) (hi : i < s.length)
    (hq : kX s i → Ev (fun n => Ym (qd prg n) (n + 1) 0 (m4 n) (.sl 4 (s.map zh)) (iI ((i : Int) + 1)) []) Q) (hn : ¬ kX s i → Q (bB false) []) : ∀ j, j ≤ (nth s i).files.length → (∀ k, k < j → ¬ wx s i (nth (nth s i).files k).path) → ∀ (k : Int) (c : Nat), k = j →
    Ev (fun n => Kn (qd prg n) (n + 1) 0 (m4 n) (n + 1 - c) (.sl 4 (s.map zh)) (iI i) (iI k) []) Q := by
  have hpi := hp0 i
  refine zC ?_
  intro j hj ih hp k c hk
  subst hk
  (refine qkf ?_; unfold XB)
  repeat' (first|((with_reducible refine eB ?_);first|((with_reducible first|refine zf ?_ ?_|refine wk ?_ ?_)<;>intro h<;>try (exfalso;omega))|((with_reducible refine zi ?_ ?_);· omega)|refine qe rfl ?_|refine qb rfl ?_)|((with_reducible refine eL ?_);first|((with_reducible refine qI ?_ ?_);· rfl)|refine qy rfl rfl ?_|refine qG rfl rfl ?_|refine qz rfl rfl rfl ?_|refine qJ rfl rfl ?_|refine qH rfl rfl ?_|refine qK rfl ?_|refine qe rfl ?_|refine qb rfl ?_)|((with_reducible refine eI ?_);first|((with_reducible refine q5 ?_ ?_ ?_);(·rfl);· omega)|(refine qN rfl rfl ?_ ?_;(·first|omega|(simp only [List.length_cons,List.length_nil,List.length_map,List.length_append];omega)))|(refine qO rfl rfl ?_ ?_;(focus omega))|((with_reducible refine q9 ?_ ?_ ?_);(·rfl);· omega)|(refine qS rfl rfl ?_ ?_;(·first|omega|(simp only [List.length_cons,List.length_nil,List.length_map,List.length_append];omega)))|(refine qW rfl rfl ?_ ?_;(focus omega))|refine qe rfl ?_|refine qb rfl ?_)|((with_reducible refine eC ?_);first|((refine z5 (qb3 s hs hp0 i (by omega) _) rfl rfl ?_ (fun _ => rfl) ?_);(·first|exact .inl rfl|exact .inr (fun _ => rfl));(first|(have q0 := z3;clear q0;intro z4 hz4)|(have q0 := z2;clear q0;intro z3 hz3)|(have q0 := z;clear q0;intro z2 hz2)|(intro z hz))))|((with_reducible refine eK ?_);first|(with_reducible first|refine qT ?_|refine qU ?_)|((with_reducible refine qr ?_ ?_)<;>intro h))|((with_reducible refine eO ?_);first|refine qe rfl ?_|(refine qB rfl ?_ ?_<;>intro h<;>try (exfalso;simp_all;done))|refine qb rfl ?_|(refine qF rfl ?_ rfl ?_;(focus omega))|(refine qt rfl ?_ rfl ?_ ?_;(focus omega);(all_goals intro h)))|((with_reducible refine eD ?_);first|refine qe rfl ?_|refine qb rfl ?_)|((with_reducible refine ih ?_ (zR hp ?_) _ _ ?_)<;>(first|omega|assumption|((intro h9;have := hz.2 h9;omega))|(simp only [*,List.map_append,List.length_append,List.length_cons,List.length_nil,List.map_cons,List.map_nil];done)|(simp_all;done)|(simp_all;omega)))|( exact hq fun y hy => hp y (by omega))|refine qq rfl ?_)
  all_goals (refine hn fun h9 => h9 j (by omega) ?_; exact hz.1 (by omega))
theorem Yy (s : List TPkg) (hs : s.length ≤ 2000000) (hp0 : PL s) (hok : kF s = true) {Q : SV → List SO → Prop} (m4 : Nat → Nat) (i : Nat) (hi : i < s.length)
    (hq : xl s i → kX s i → Ev (fun n => Ym (qd prg n) (n + 1) 0 (m4 n) (.sl 4 (s.map zh)) (iI ((i : Int) + 1)) []) Q) (hn : ¬ (xl s i ∧ kX s i) → Q (bB false) []) : ∀ j, j ≤ (nth s i).deps.length → (∀ k, k < j → wu s (nth (nth s i).deps k).name (nth (nth s i).deps k).least) → ∀ (k : Int) (c : Nat), k = j →
    Ev (fun n => qbd (qd prg n) (n + 1) 0 (m4 n) (n + 1 - c) (.sl 4 (s.map zh)) (iI i) (iI k) []) Q := by
  have hpi := hp0 i
  refine zC ?_
  intro j hj ih hp k c hk
  subst hk
  (refine UL63_7 ?_; unfold qdX)
  repeat' (first|((with_reducible refine eB ?_);first|((with_reducible refine zf ?_ ?_)<;>intro h<;>try (exfalso;omega))|((with_reducible refine zi ?_ ?_);· omega)|refine qe rfl ?_|refine qb rfl ?_)|((with_reducible refine eL ?_);first|((with_reducible refine qI ?_ ?_);· rfl)|refine qy rfl rfl ?_|refine qG rfl rfl ?_|refine qz rfl rfl rfl ?_|refine qJ rfl rfl ?_|refine qH rfl rfl ?_|refine qK rfl ?_|refine qe rfl ?_|refine qb rfl ?_)|((with_reducible refine eI ?_);first|((with_reducible refine q5 ?_ ?_ ?_);(·rfl);· omega)|(refine qN rfl rfl ?_ ?_;(·first|omega|(simp only [List.length_cons,List.length_nil,List.length_map,List.length_append];omega)))|(refine qO rfl rfl ?_ ?_;(focus omega))|((with_reducible refine q9 ?_ ?_ ?_);(·rfl);· omega)|(refine qS rfl rfl ?_ ?_;(·first|omega|(simp only [List.length_cons,List.length_nil,List.length_map,List.length_append];omega)))|(refine qW rfl rfl ?_ ?_;(focus omega))|refine qe rfl ?_|refine qb rfl ?_)|((with_reducible refine eC ?_);first|((refine zw (qb1 s hs hp0 hok _ _) rfl rfl ?_ rfl rfl ?_ ?_);(focus first|exact .inl rfl|exact .inr rfl|(refine .inr ?_;simp [qo,qm,qh,qg,SO.hasSl,List.all_map,qi,SV.cells,Function.comp_def];done));(all_goals (intro h));(all_goals (try (exfalso;first|omega|exact h rfl|exact h ⟨rfl,rfl,rfl⟩)))))|((with_reducible refine eK ?_);first|(with_reducible first|refine qT ?_|refine qU ?_)|((with_reducible refine qr ?_ ?_)<;>intro h))|((with_reducible refine eO ?_);first|refine qe rfl ?_|(refine qB rfl ?_ ?_<;>intro h<;>try (exfalso;simp_all;done))|refine qb rfl ?_|(refine qF rfl ?_ rfl ?_;(focus omega))|(refine qt rfl ?_ rfl ?_ ?_;(focus omega);(all_goals intro h)))|((with_reducible refine eD ?_);first|refine qe rfl ?_|refine qb rfl ?_)|((with_reducible refine ih ?_ (zR hp ?_) _ _ ?_)<;>(first|omega|assumption|(simp only [*,List.map_append,List.length_append,List.length_cons,List.length_nil,List.map_cons,List.map_nil];done)|(simp_all;done)|(simp_all;omega)))|( ((have hd : xl s i := fun y hy => hp y (by omega));exact Wr s hs hp0 m4 i hi (hq hd) (fun h9 => hn fun h8 => h9 h8.2) 0 (by omega) (fun k hk => by omega) 0 0 rfl))|refine qq rfl ?_)
  all_goals exact hn fun h9 => h (h9.1 j (by omega))
theorem Yz (s : List TPkg) (hs : s.length ≤ 2000000) (hp0 : PL s) (hok : kF s = true) (hone : qhn s = true) : ∀ i, i ≤ s.length → (∀ j, j < i → Qx s j) → ∀ (k : Int) (c : Nat), k = i →
    Ev (fun n => Ym (qd prg n) (n + 1) 0 (n + 1 - c) (.sl 4 (s.map zh)) (iI k) []) (Is (bB (zo s)) []) := by
  have ho : ∀ i, i < s.length → Zu s i := of_decide_eq_true hone
  refine zC ?_
  intro i hi ih hp k c hk
  subst hk
  (refine UL63_4 ?_; unfold qdW)
  repeat' (first|((with_reducible refine eB ?_);first|((with_reducible refine zf ?_ ?_)<;>intro h<;>try (exfalso;omega))|refine qe rfl ?_|refine qb rfl ?_)|((with_reducible refine eL ?_);first|((with_reducible refine qI ?_ ?_);· rfl)|refine qy rfl rfl ?_|refine qG rfl rfl ?_|refine qz rfl rfl rfl ?_|refine qJ rfl rfl ?_|refine qH rfl rfl ?_|refine qK rfl ?_|refine qe rfl ?_|refine qb rfl ?_)|((with_reducible refine eK ?_);first|(with_reducible first|refine qT ?_|refine qU ?_)|((with_reducible refine qr ?_ ?_)<;>intro h))|((with_reducible refine eD ?_);first|refine qe rfl ?_|refine qb rfl ?_)|( exact Yy s hs hp0 hok _ i (by omega) (fun hd hf => ih (by omega) (zR hp ⟨ho i (by omega),hd,hf⟩) _ _ rfl) (fun h9 => ⟨congrArg bB (by rw [zo,hok,Bool.true_and];exact (kD (i := i) (by omega) fun h8 => h9 h8.2).symm),rfl⟩) 0 (by omega) (fun k hk => by omega) 0 0 rfl)|refine qq rfl ?_)
  exact ⟨congrArg bB (by rw [zo, hok, Bool.true_and]; exact (wn hp (by omega)).symm), rfl⟩
theorem xm (s : List TPkg) (hs : s.length ≤ 2000000) (hp0 : PL s) : Ex (fun m => qd prg m 63 [.sl 4 (s.map zh)] []) (bB (zo s)) [] := by
  refine zz.1 ?_
  (refine U63 (nl := 0) rfl ?_; unfold B63)
  repeat' (first|((with_reducible refine eG ?_);first|(with_reducible first|refine qX ?_|refine qY ?_|refine qZ ?_|refine q4 ?_|refine zm ?_)|refine qe rfl ?_|refine qb rfl ?_|((with_reducible refine zn ?_ ?_)<;>intro h))|((with_reducible refine eC ?_);first|((refine zT (qbU s hs hp0) rfl rfl ?_ rfl rfl ?_ ?_);(focus first|exact .inl rfl|exact .inr rfl|(refine .inr ?_;simp [qo,qm,qh,qg,SO.hasSl,List.all_map,qi,SV.cells,Function.comp_def];done));(all_goals (intro h));(all_goals (try (exfalso;simp_all;done))))|((refine zT (qho s hs) rfl rfl ?_ rfl rfl ?_ ?_);(focus first|exact .inl rfl|exact .inr rfl|(refine .inr ?_;simp [qo,qm,qh,qg,SO.hasSl,List.all_map,qi,SV.cells,Function.comp_def];done));(all_goals (intro h));(all_goals (try (exfalso;simp_all;done)))))|((with_reducible refine eK ?_);first|(with_reducible first|refine qT ?_|refine qU ?_)|((with_reducible refine qr ?_ ?_)<;>intro h))|((with_reducible refine eD ?_);first|refine qe rfl ?_|refine qb rfl ?_|((with_reducible refine qC ?_ ?_)<;>intro h))|( exact Yz s hs hp0 (by assumption) (by assumption) 0 (by omega) (fun j hj => by omega) 0 0 rfl)|refine qq rfl ?_)
  all_goals first
    | (refine ⟨congrArg bB ?_, rfl⟩; simp [zo, *]; done)
    | (refine ⟨congrArg bB ?_, rfl⟩
       have h1 : Ja s = false := by
         refine decide_eq_false fun h9 => ?_
         have h8 : qhn s = true := decide_eq_true fun i hi => (h9 i hi).1
         simp_all
       simp [zo, h1])
    | trace_state
theorem qhp (name ver : Int) (F : List TFile) (D : List TDep) (dn dl : Int) : Ex (fun m => qd prg m 101 [.ag [iI name, iI ver, .sl 2 (F.map wq), .sl 2 (D.map je)], .ptr 0 0] [.box [iI dn, iI dl]]) (bB (decide (name = dn ∧ dl ≤ ver))) [.box [iI dn, iI dl]] := by
  refine zz.1 ?_
  (refine U101 (nl := 1) rfl ?_; unfold B101)
  repeat' (first|((with_reducible refine eG ?_);first|(with_reducible first|refine qX ?_|refine qY ?_|refine qZ ?_|refine q4 ?_|refine zm ?_)|refine qe rfl ?_|refine qb rfl ?_|((with_reducible refine zn ?_ ?_)<;>intro h))|((with_reducible refine eB ?_);first|((with_reducible first|refine wk ?_ ?_|refine zr ?_ ?_)<;>intro h<;>try (exfalso;omega))|refine qe rfl ?_|refine qb rfl ?_)|((with_reducible refine eO ?_);first|refine qe rfl ?_|(refine qB rfl ?_ ?_<;>intro h<;>try (exfalso;simp_all;done))|refine qb rfl ?_|(refine qF rfl ?_ rfl ?_;(focus omega))|(refine qt rfl ?_ rfl ?_ ?_;(focus omega);(all_goals intro h)))|((with_reducible refine eD ?_);first|refine qe rfl ?_|refine qb rfl ?_|((with_reducible refine qC ?_ ?_)<;>intro h))|refine qq rfl ?_)
  all_goals (refine ⟨congrArg (fun b => SV.v (Value.bool b)) ?_, rfl⟩; first | (simp_all []; done) | (simp_all []; omega) | (simp [] at *; omega) | (simp []; omega) | grind [] | trace_state)
theorem qe5 (s : List TPkg) (hs : s.length ≤ 2000000) (dn dl : Int) : ∀ i, i ≤ s.length → (∀ j, j < i → ¬ ((nth s j).name = dn ∧ dl ≤ (nth s j).ver)) → ∀ (k : Int) (c : Nat), k = i →
    Ev (fun n => Kx (qd prg n) (n + 1) 1 (n + 1 - c) (.sl 4 (s.map zh)) (.fn 101 [.ptr 0 0]) (iI s.length) (iI k) [.box [iI dn, iI dl]]) (fun y os => ∃ z : Int, y = iI z ∧ os = [.box [iI dn, iI dl]] ∧ (0 ≤ z ↔ wu s dn dl)) := by
  refine zC ?_
  intro i hi ih hp k c hk
  subst hk
  (refine qk2 ?_; unfold XK)
  repeat' (first|((with_reducible refine eB ?_);first|((with_reducible refine zf ?_ ?_)<;>intro h<;>try (exfalso;omega))|((with_reducible refine zi ?_ ?_);· omega)|refine qe rfl ?_|refine qb rfl ?_)|((with_reducible refine eI ?_);first|((with_reducible refine q5 ?_ ?_ ?_);(·rfl);· omega)|(refine qN rfl rfl ?_ ?_;(·first|omega|(simp only [List.length_cons,List.length_nil,List.length_map,List.length_append];omega)))|(refine qO rfl rfl ?_ ?_;(focus omega))|((with_reducible refine q9 ?_ ?_ ?_);(·rfl);· omega)|(refine qS rfl rfl ?_ ?_;(·first|omega|(simp only [List.length_cons,List.length_nil,List.length_map,List.length_append];omega)))|(refine qW rfl rfl ?_ ?_;(focus omega))|refine qe rfl ?_|refine qb rfl ?_)|((with_reducible refine eC ?_);first|((refine zw (qhp _ _ _ _ _ _) rfl rfl ?_ rfl rfl ?_ ?_);(focus first|exact .inl rfl|exact .inr rfl|(refine .inr ?_;simp [qo,qm,qh,qg,SO.hasSl,List.all_map,qi,SV.cells,Function.comp_def];done));(all_goals (intro h));(all_goals (try (exfalso;first|omega|exact h rfl|exact h ⟨rfl,rfl,rfl⟩)))))|(with_reducible refine yJ ?_)|((with_reducible refine eK ?_);first|(with_reducible first|refine qT ?_|refine qU ?_)|((with_reducible refine qr ?_ ?_)<;>intro h))|((with_reducible refine eO ?_);first|refine qe rfl ?_|(refine qB rfl ?_ ?_<;>intro h<;>try (exfalso;simp_all;done))|refine qb rfl ?_|(refine qF rfl ?_ rfl ?_;(focus omega))|(refine qt rfl ?_ rfl ?_ ?_;(focus omega);(all_goals intro h)))|((with_reducible refine eD ?_);first|refine qe rfl ?_|refine qb rfl ?_)|((with_reducible refine ih ?_ (zR hp ?_) _ _ ?_)<;>(first|omega|assumption|(simp only [*,List.map_append,List.length_append,List.length_cons,List.length_nil,List.map_cons,List.map_nil];done)|(simp_all;done)|(simp_all;omega)))|refine qq rfl ?_)
  · exact ⟨_, rfl, rfl, ⟨fun _ => ⟨_, zX (l := s) (k := i) (by omega), h⟩, fun _ => by omega⟩⟩
  · refine ⟨_, rfl, rfl, ⟨fun h9 => by omega, fun h9 => ?_⟩⟩
    obtain ⟨q, hq, h8⟩ := h9
    obtain ⟨j, hj, rfl⟩ := kK hq
    exact absurd h8 (hp j (by omega))
theorem qlf (s : List TPkg) (hs : s.length ≤ 2000000) (dn dl : Int) : ∃ z : Int, (0 ≤ z ↔ wu s dn dl) ∧ Ex (fun m => qd prg m 114 [.sl 4 (s.map zh), .fn 101 [.ptr 0 0]] [.box [iI dn, iI dl]]) (iI z) [.box [iI dn, iI dl]] := by
  have key : Ev (fun m => qd prg m 114 [.sl 4 (s.map zh), .fn 101 [.ptr 0 0]] [.box [iI dn, iI dl]]) (fun y os => ∃ z : Int, y = iI z ∧ os = [.box [iI dn, iI dl]] ∧ (0 ≤ z ↔ wu s dn dl)) := by
    (refine U114 (nl := 1) rfl ?_; unfold B114)
    repeat' (first|((with_reducible refine eL ?_);first|((with_reducible refine qI ?_ ?_);· rfl)|refine qy rfl rfl ?_|refine qG rfl rfl ?_|refine qz rfl rfl rfl ?_|refine qJ rfl rfl ?_|refine qH rfl rfl ?_|refine qK rfl ?_|refine qe rfl ?_|refine qb rfl ?_)|((with_reducible refine eD ?_);first|refine qe rfl ?_|refine qb rfl ?_)|( exact qe5 s hs dn dl 0 (by omega) (fun j hj => by omega) 0 0 rfl)|refine qq rfl ?_)
  obtain ⟨_, _, ⟨z, rfl, rfl, hz⟩, he⟩ := key
  exact ⟨z, hz, he⟩
theorem qlg (s : List TPkg) (hs : s.length ≤ 2000000) (dn dl : Int) : Ex (fun m => qd prg m 100 [.sl 4 (s.map zh), .fn 101 [.ptr 0 0]] [.box [iI dn, iI dl]]) (bB (decide (wu s dn dl))) [.box [iI dn, iI dl]] := by
  refine zz.1 ?_
  (refine U100 (nl := 1) rfl ?_; unfold B100)
  repeat' (first|((with_reducible refine eB ?_);first|((with_reducible refine wk ?_ ?_)<;>intro h<;>try (exfalso;omega))|refine qe rfl ?_|refine qb rfl ?_)|((with_reducible refine eC ?_);first|((refine z5 (qlf s hs dn dl) rfl rfl ?_ (fun _ => rfl) ?_);(·first|exact .inl rfl|exact .inr (fun _ => rfl));(first|(have q0 := z3;clear q0;intro z4 hz4)|(have q0 := z2;clear q0;intro z3 hz3)|(have q0 := z;clear q0;intro z2 hz2)|(intro z hz))))|((with_reducible refine eD ?_);first|refine qe rfl ?_|refine qb rfl ?_)|refine qq rfl ?_)
  all_goals exact ⟨congrArg bB (by simp [← hz]; omega), rfl⟩
theorem qlh (s : List TPkg) (hs : s.length ≤ 2000000) (dn dl : Int) : Ex (fun m => qd prg m 81 [.sl 4 (s.map zh), .ag [iI dn, iI dl]] []) (bB (decide (wu s dn dl))) [] := by
  refine zz.1 ?_
  (refine U81 (nl := 0) rfl ?_; unfold B81)
  repeat' (first|((with_reducible refine eC ?_);first|((refine zw (qlg s hs dn dl) rfl rfl ?_ rfl rfl ?_ ?_);(focus first|exact .inl rfl|exact .inr rfl|(refine .inr ?_;simp [qo,qm,qh,qg,SO.hasSl,List.all_map,qi,SV.cells,Function.comp_def];done));(all_goals (intro h));(all_goals (try (exfalso;first|omega|exact h rfl|exact h ⟨rfl,rfl,rfl⟩)))))|((with_reducible refine eD ?_);first|refine qe rfl ?_|refine qb rfl ?_)|refine qq rfl ?_)
  all_goals exact ⟨congrArg bB (by simp [h]), rfl⟩
theorem qe6 (s : List TPkg) (hs : s.length ≤ 2000000) (dn dl : Int) : Ex (fun m => qd prg m 80 [.ag [iI dn, iI dl], .ptr 0 0] [.box [.sl 4 (s.map zh)]]) (bB (decide (¬ wu s dn dl))) [.box [.sl 4 (s.map zh)]] := by
  refine zz.1 ?_
  (refine U80 (nl := 1) rfl ?_; unfold B80)
  repeat' (first|((with_reducible refine eC ?_);first|((refine zw (qlh s hs dn dl) rfl rfl ?_ rfl rfl ?_ ?_);(focus first|exact .inl rfl|exact .inr rfl|(refine .inr ?_;simp [qo,qm,qh,qg,SO.hasSl,List.all_map,qi,SV.cells,Function.comp_def];done));(all_goals (intro h));(all_goals (try (exfalso;first|omega|exact h rfl|exact h ⟨rfl,rfl,rfl⟩)))))|((with_reducible refine eO ?_);first|refine qe rfl ?_|(refine qB rfl ?_ ?_<;>intro h<;>try (exfalso;simp_all;done))|refine qb rfl ?_|(refine qF rfl ?_ rfl ?_;(focus omega))|(refine qt rfl ?_ rfl ?_ ?_;(focus omega);(all_goals intro h)))|((with_reducible refine eD ?_);first|refine qe rfl ?_|refine qb rfl ?_)|refine qq rfl ?_)
  all_goals exact ⟨congrArg bB (by simp [h]), rfl⟩
theorem qe7 (s : List TPkg) (hs : s.length ≤ 2000000) (D : List TDep) (hD : D.length ≤ 2000000) : ∀ i, i ≤ D.length → (∀ j, j < i → wu s (nth D j).name (nth D j).least) → ∀ (k : Int) (c : Nat), k = i →
    Ev (fun n => qbK (qd prg n) (n + 1) 1 (n + 1 - c) (.sl 2 (D.map je)) (.fn 80 [.ptr 0 0]) (iI D.length) (iI k) [.box [.sl 4 (s.map zh)]]) (fun y os => ∃ z : Int, y = iI z ∧ os = [.box [.sl 4 (s.map zh)]] ∧ (0 ≤ z ↔ ¬ ∀ j, j < D.length → wu s (nth D j).name (nth D j).least)) := by
  refine zC ?_
  intro i hi ih hp k c hk
  subst hk
  (refine UL99_2 ?_; unfold qeo)
  repeat' (first|((with_reducible refine eB ?_);first|((with_reducible refine zf ?_ ?_)<;>intro h<;>try (exfalso;omega))|((with_reducible refine zi ?_ ?_);· omega)|refine qe rfl ?_|refine qb rfl ?_)|((with_reducible refine eI ?_);first|((with_reducible refine q5 ?_ ?_ ?_);(·rfl);· omega)|(refine qN rfl rfl ?_ ?_;(·first|omega|(simp only [List.length_cons,List.length_nil,List.length_map,List.length_append];omega)))|(refine qO rfl rfl ?_ ?_;(focus omega))|((with_reducible refine q9 ?_ ?_ ?_);(·rfl);· omega)|(refine qS rfl rfl ?_ ?_;(·first|omega|(simp only [List.length_cons,List.length_nil,List.length_map,List.length_append];omega)))|(refine qW rfl rfl ?_ ?_;(focus omega))|refine qe rfl ?_|refine qb rfl ?_)|((with_reducible refine eC ?_);first|((refine zw (qe6 s hs _ _) rfl rfl ?_ rfl rfl ?_ ?_);(focus first|exact .inl rfl|exact .inr rfl|(refine .inr ?_;simp [qo,qm,qh,qg,SO.hasSl,List.all_map,qi,SV.cells,Function.comp_def];done));(all_goals (intro h));(all_goals (try (exfalso;first|omega|exact h rfl|exact h ⟨rfl,rfl,rfl⟩)))))|(with_reducible refine yJ ?_)|((with_reducible refine eK ?_);first|(with_reducible first|refine qT ?_|refine qU ?_)|((with_reducible refine qr ?_ ?_)<;>intro h))|((with_reducible refine eO ?_);first|refine qe rfl ?_|(refine qB rfl ?_ ?_<;>intro h<;>try (exfalso;simp_all;done))|refine qb rfl ?_|(refine qF rfl ?_ rfl ?_;(focus omega))|(refine qt rfl ?_ rfl ?_ ?_;(focus omega);(all_goals intro h)))|((with_reducible refine eD ?_);first|refine qe rfl ?_|refine qb rfl ?_)|((with_reducible refine ih ?_ (zR hp ?_) _ _ ?_)<;>(first|omega|assumption|((exact Decidable.not_not.1 h))|(simp only [*,List.map_append,List.length_append,List.length_cons,List.length_nil,List.map_cons,List.map_nil];done)|(simp_all;done)|(simp_all;omega)))|refine qq rfl ?_)
  · exact ⟨_, rfl, rfl, ⟨fun _ h9 => h (h9 i (by omega)), fun _ => by omega⟩⟩
  · exact ⟨_, rfl, rfl, ⟨fun h9 => by omega, fun h9 => absurd (fun j hj => hp j (by omega)) h9⟩⟩
theorem qli (s : List TPkg) (hs : s.length ≤ 2000000) (D : List TDep) (hD : D.length ≤ 2000000) : ∃ z : Int, (0 ≤ z ↔ ¬ ∀ j, j < D.length → wu s (nth D j).name (nth D j).least) ∧ Ex (fun m => qd prg m 99 [.sl 2 (D.map je), .fn 80 [.ptr 0 0]] [.box [.sl 4 (s.map zh)]]) (iI z) [.box [.sl 4 (s.map zh)]] := by
  have key : Ev (fun m => qd prg m 99 [.sl 2 (D.map je), .fn 80 [.ptr 0 0]] [.box [.sl 4 (s.map zh)]]) (fun y os => ∃ z : Int, y = iI z ∧ os = [.box [.sl 4 (s.map zh)]] ∧ (0 ≤ z ↔ ¬ ∀ j, j < D.length → wu s (nth D j).name (nth D j).least)) := by
    (refine U99 (nl := 1) rfl ?_; unfold B99)
    repeat' (first|((with_reducible refine eL ?_);first|((with_reducible refine qI ?_ ?_);· rfl)|refine qy rfl rfl ?_|refine qG rfl rfl ?_|refine qz rfl rfl rfl ?_|refine qJ rfl rfl ?_|refine qH rfl rfl ?_|refine qK rfl ?_|refine qe rfl ?_|refine qb rfl ?_)|((with_reducible refine eD ?_);first|refine qe rfl ?_|refine qb rfl ?_)|( exact qe7 s hs D hD 0 (by omega) (fun j hj => by omega) 0 0 rfl)|refine qq rfl ?_)
  obtain ⟨_, _, ⟨z, rfl, rfl, hz⟩, he⟩ := key
  exact ⟨z, hz, he⟩
theorem qlj (s : List TPkg) (hs : s.length ≤ 2000000) (D : List TDep) (hD : D.length ≤ 2000000) : Ex (fun m => qd prg m 79 [.sl 2 (D.map je), .fn 80 [.ptr 0 0]] [.box [.sl 4 (s.map zh)]]) (bB (decide (¬ ∀ j, j < D.length → wu s (nth D j).name (nth D j).least))) [.box [.sl 4 (s.map zh)]] := by
  refine zz.1 ?_
  (refine U79 (nl := 1) rfl ?_; unfold B79)
  repeat' (first|((with_reducible refine eB ?_);first|((with_reducible refine wk ?_ ?_)<;>intro h<;>try (exfalso;omega))|refine qe rfl ?_|refine qb rfl ?_)|((with_reducible refine eC ?_);first|((refine z5 (qli s hs D hD) rfl rfl ?_ (fun _ => rfl) ?_);(·first|exact .inl rfl|exact .inr (fun _ => rfl));(first|(have q0 := z3;clear q0;intro z4 hz4)|(have q0 := z2;clear q0;intro z3 hz3)|(have q0 := z;clear q0;intro z2 hz2)|(intro z hz))))|((with_reducible refine eD ?_);first|refine qe rfl ?_|refine qb rfl ?_)|refine qq rfl ?_)
  · exact ⟨congrArg bB (decide_eq_true (hz.1 h)).symm, rfl⟩
  · exact ⟨congrArg bB (decide_eq_false fun h9 => h (hz.2 h9)).symm, rfl⟩
end Go.Proofs.Ytfjbclgbpdlkgaa

/- Packages that can be in together: the program's function. -/
namespace Go.Proofs.Ytfjbclgbpdlkgaa
open Go
set_option linter.unusedVariables false
set_option linter.unusedSimpArgs false
set_option maxHeartbeats 4000000
theorem xn {p : TPkg} (h : w4 p = true) : p.files.length ≤ 2 ∧ ∀ i, i < p.files.length → yi p.files i := by
  obtain ⟨-, -, h3, -⟩ := qe0.1 h
  simp only [wv, yT, Bool.and_eq_true, decide_eq_true_eq] at h3
  exact h3
theorem KE {p : TPkg} (h : w4 p = true) : ∀ j i, i < j → j < p.files.length → (nth p.files i).path < (nth p.files j).path := by
  obtain ⟨-, hf⟩ := xn h
  intro j
  induction j with
  | zero => intro i hi; omega
  | succ j ih =>
    intro i hi hj
    have h1 := (hf (j + 1) hj).2.2 (by omega)
    simp only [Nat.add_sub_cancel] at h1
    by_cases e : i = j
    · subst e; exact h1
    · have := ih i (by omega) (by omega); omega
def sel6 (t0 t1 t2 t3 t4 t5 : Bool) (x : Int) : Bool := if x = 0 then t0 else if x = 1 then t1 else if x = 2 then t2 else if x = 3 then t3 else if x = 4 then t4 else t5
def jE (s : List TPkg) (i k : Nat) (x : Int) : Prop := wx s i x ∨ ∃ j, j < k ∧ (nth (nth s i).files j).path = x
def Tk (s : List TPkg) (i k : Nat) (t0 t1 t2 t3 t4 t5 : Bool) : Prop := ∀ x, 0 ≤ x → x ≤ 5 → (sel6 t0 t1 t2 t3 t4 t5 x = true ↔ jE s i k x)
theorem qe8 {s : List TPkg} {i k : Nat} {x : Int} : jE s i (k + 1) x ↔ jE s i k x ∨ (nth (nth s i).files k).path = x := by
  unfold jE
  constructor
  · rintro (h | ⟨j, hj, h⟩)
    · exact .inl (.inl h)
    · by_cases e : j = k
      · subst e; exact .inr h
      · exact .inl (.inr ⟨j, by omega, h⟩)
  · rintro ((h | ⟨j, hj, h⟩) | h)
    · exact .inl h
    · exact .inr ⟨j, by omega, h⟩
    · exact .inr ⟨k, by omega, h⟩
theorem qhq {s : List TPkg} {i : Nat} {x : Int} : jE s i (nth s i).files.length x ↔ jE s (i + 1) 0 x := by
  unfold jE
  rw [KD]
  constructor
  · rintro (h | ⟨j, hj, h⟩)
    · exact .inl (.inl h)
    · exact .inl (.inr ⟨_, zX hj, h⟩)
  · rintro ((h | ⟨f, hf, h⟩) | ⟨j, hj, -⟩)
    · exact .inl h
    · obtain ⟨j, hj, rfl⟩ := kK hf
      exact .inr ⟨j, hj, h⟩
    · omega
theorem Ws (s : List TPkg) (hs : s.length ≤ 2000000) (hp0 : PL s) {Q : SV → List SO → Prop} (m5 : Nat → Nat) (i : Nat) (hi : i < s.length) (hpk : w4 (nth s i) = true)
    (hq : kX s i → ∀ t0 t1 t2 t3 t4 t5, Tk s (i + 1) 0 t0 t1 t2 t3 t4 t5 → Ev (fun n => Yl (qd prg n) (n + 1) 0 (m5 n) (.ptr 0 0) (.ptr 1 0) (.sl 4 (s.map zh)) (iI s.length) (iI ((i : Int) + 1)) [.box [.sl 4 (s.map zh)], .box [bB t0, bB t1, bB t2, bB t3, bB t4, bB t5]]) Q) (hn : ¬ kX s i → Q (bB false) []) :
    ∀ j, j ≤ (nth s i).files.length → (∀ k, k < j → ¬ wx s i (nth (nth s i).files k).path) → ∀ (t0 t1 t2 t3 t4 t5 : Bool), Tk s i j t0 t1 t2 t3 t4 t5 → ∀ (k : Int) (c : Nat), k = j →
    Ev (fun n => Kl (qd prg n) (n + 1) 0 (m5 n) (n + 1 - c) [.ptr 0 0, .ptr 1 0, .sl 4 (s.map zh), iI s.length, iI i, .sl 2 ((nth s i).files.map wq), iI (nth s i).files.length, iI k] [.box [.sl 4 (s.map zh)], .box [bB t0, bB t1, bB t2, bB t3, bB t4, bB t5]]) Q := by
  have hpi := hp0 i
  have hfa := (xn hpk).2
  refine zC ?_
  intro j hj ih hp t0 t1 t2 t3 t4 t5 ht k c hk
  subst hk
  have h6 : j < (nth s i).files.length → (nth (nth s i).files j).path = 0 ∨ (nth (nth s i).files j).path = 1 ∨ (nth (nth s i).files j).path = 2 ∨ (nth (nth s i).files j).path = 3 ∨ (nth (nth s i).files j).path = 4 ∨ (nth (nth s i).files j).path = 5 := fun h => by
    have := hfa j h; unfold yi at this; omega
  have hno : ∀ x : Int, (nth (nth s i).files j).path = x → j < (nth s i).files.length → ¬ jE s i j x → ¬ wx s i (nth (nth s i).files j).path := fun x e _ h h9 => h (.inl (e ▸ h9))
  have hyes : ∀ x : Int, (nth (nth s i).files j).path = x → j < (nth s i).files.length → jE s i j x → ¬ kX s i := fun x e hj2 h h9 => by
    rcases h with h | ⟨y, hy, h⟩
    · exact h9 j hj2 (e ▸ h)
    · have := KE hpk j y hy hj2; omega
  (refine qj6 _ ?_; unfold Xw)
  repeat' (first|( ((with_reducible refine eO ?_);(refine qB rfl ?_ ?_<;>intro h)))|((with_reducible refine eB ?_);first|((with_reducible refine zf ?_ ?_)<;>intro h<;>try (exfalso;omega))|((with_reducible refine zi ?_ ?_);· omega)|refine qe rfl ?_|refine qb rfl ?_)|((with_reducible refine eI ?_);first|((with_reducible refine q5 ?_ ?_ ?_);(·rfl);· omega)|(refine qN rfl rfl ?_ ?_;(·first|omega|(simp only [List.length_cons,List.length_nil,List.length_map,List.length_append];omega)))|(refine qO rfl rfl ?_ ?_;(focus omega))|((with_reducible refine q9 ?_ ?_ ?_);(·rfl);· omega)|( (rcases h6 (by omega) with e6|e6|e6|e6|e6|e6<;>(rw [e6];refine qe rfl ?_)))|(refine qS rfl rfl ?_ ?_;(·first|omega|(simp only [List.length_cons,List.length_nil,List.length_map,List.length_append];omega)))|(refine qW rfl rfl ?_ ?_;(focus omega))|refine qe rfl ?_|refine qb rfl ?_)|((with_reducible refine eK ?_);first|(with_reducible first|refine qT ?_|refine qU ?_)|((with_reducible refine qr ?_ ?_)<;>intro h))|((with_reducible refine eO ?_);first|refine qe rfl ?_|(refine qB rfl ?_ ?_<;>intro h<;>try (exfalso;simp_all;done))|refine qb rfl ?_|(refine qF rfl ?_ rfl ?_;(focus omega))|(refine qt rfl ?_ rfl ?_ ?_;(focus omega);(all_goals intro h)))|((with_reducible refine eD ?_);first|refine qe rfl ?_|refine qb rfl ?_)|((with_reducible refine eH ?_);first|refine zA rfl ?_)|(with_reducible first|refine XP ?_|refine qey ?_)|((with_reducible refine ih ?_ (zR hp ?_) _ _ _ _ _ _ ?_ _ _ ?_)<;>(first|omega|assumption|((first|(exact hno _ e6 (by omega) fun h9 => by have h8 := (ht _ (by omega) (by omega)).2 h9;simp [sel6] at h8;simp_all)|(intro x hx1 hx2;rw [qe8,← ht x hx1 hx2,e6];(obtain rfl|rfl|rfl|rfl|rfl|rfl : x = 0 ∨ x = 1 ∨ x = 2 ∨ x = 3 ∨ x = 4 ∨ x = 5 := by omega)<;>simp [sel6])))|(simp only [*,List.map_append,List.length_append,List.length_cons,List.length_nil,List.map_cons,List.map_nil];done)|(simp_all;done)|(simp_all;omega)))|( exact hq (fun y hy => hp y (by omega)) _ _ _ _ _ _ (by (intro x hx1 hx2);(rw [ht x hx1 hx2,← qhq]);(rw [show j = (nth s i).files.length by omega])))|refine qq rfl ?_)
  all_goals first
    | exact hn (hyes _ e6 (by omega) ((ht _ (by omega) (by omega)).1 (by simpa [sel6] using h)))
    | trace_state
theorem qe9 {s : List TPkg} {i : Nat} (a : Zu s i) (b : xl s i) (c : kX s i) : Qx s i := ⟨a, b, c⟩
theorem YA (s : List TPkg) (hs : s.length ≤ 2000000) (hp0 : PL s) (hok : kF s = true) : ∀ i, i ≤ s.length → (∀ j, j < i → Qx s j) → ∀ (t0 t1 t2 t3 t4 t5 : Bool), Tk s i 0 t0 t1 t2 t3 t4 t5 → ∀ (k : Int) (c : Nat), k = i →
    Ev (fun n => qba (qd prg n) (n + 1) 0 (n + 1 - c) [.ptr 0 0, .ptr 1 0, .sl 4 (s.map zh), iI s.length, iI k] [.box [.sl 4 (s.map zh)], .box [bB t0, bB t1, bB t2, bB t3, bB t4, bB t5]]) (Is (bB (zo s)) []) := by
  refine zC ?_
  intro i hi ih hp t0 t1 t2 t3 t4 t5 ht k c hk
  subst hk
  have hpi := hp0 i
  have hnext : i < s.length → Zu s i → xl s i → kX s i → ∀ u0 u1 u2 u3 u4 u5, Tk s (i + 1) 0 u0 u1 u2 u3 u4 u5 → ∀ c, Ev (fun n => Yl (qd prg n) (n + 1) 0 (n + 1 - c) (.ptr 0 0) (.ptr 1 0) (.sl 4 (s.map zh)) (iI s.length) (iI ((i : Int) + 1)) [.box [.sl 4 (s.map zh)], .box [bB u0, bB u1, bB u2, bB u3, bB u4, bB u5]]) (Is (bB (zo s)) []) := by
    intro hi2 ho hd hf u0 u1 u2 u3 u4 u5 hu c
    repeat' (first|((with_reducible refine eG ?_);first|(with_reducible first|refine qX ?_|refine qY ?_|refine qZ ?_|refine q4 ?_|refine zm ?_)|refine qe rfl ?_|refine qb rfl ?_|((with_reducible refine zn ?_ ?_)<;>intro h))|((with_reducible refine eB ?_);first|((with_reducible first|refine zf ?_ ?_|refine xk ?_ ?_|refine ka ?_ ?_|refine wk ?_ ?_|refine zr ?_ ?_|refine kb ?_ ?_)<;>intro h<;>try (exfalso;omega))|((with_reducible first|refine zi ?_ ?_|refine kG ?_ ?_|refine JO ?_ ?_);· omega)|((with_reducible refine W8 ?_ ?_ ?_);(·omega);(·omega);intro x hx hx0 hx1)|((with_reducible refine jx ?_ ?_);(·omega);intro x hx hx0 hx1)|((with_reducible first|refine Wd ?_ ?_ ?_|refine We ?_ ?_ ?_|refine Wb ?_ ?_ ?_|refine Wc ?_ ?_ ?_);(·rfl);all_goals intro h)|refine qe rfl ?_|refine qb rfl ?_)|((with_reducible refine eL ?_);first|((with_reducible refine qI ?_ ?_);· rfl)|refine qy rfl rfl ?_|refine qG rfl rfl ?_|refine qz rfl rfl rfl ?_|refine qJ rfl rfl ?_|refine qH rfl rfl ?_|refine qK rfl ?_|refine qe rfl ?_|refine qb rfl ?_)|((with_reducible refine eI ?_);first|((with_reducible refine q5 ?_ ?_ ?_);(·rfl);· omega)|(refine qN rfl rfl ?_ ?_;(·first|omega|(simp only [List.length_cons,List.length_nil,List.length_map,List.length_append];omega)))|(refine qO rfl rfl ?_ ?_;(focus omega))|((with_reducible refine q9 ?_ ?_ ?_);(·rfl);· omega)|(refine qS rfl rfl ?_ ?_;(·first|omega|(simp only [List.length_cons,List.length_nil,List.length_map,List.length_append];omega)))|(refine qW rfl rfl ?_ ?_;(focus omega))|refine qe rfl ?_|refine qb rfl ?_)|((with_reducible refine eS ?_);first|((with_reducible first|refine wl ?_ ?_ ?_|refine wm ?_ ?_ ?_);(·rfl);· omega)|((first|refine kz rfl rfl ?_ ?_|refine kA rfl rfl ?_ ?_);(·first|omega|(simp only [List.length_cons,List.length_nil,List.length_map,List.length_append];omega)))|refine qe rfl ?_|refine qb rfl ?_)|((with_reducible refine eC ?_);first|fail)|(with_reducible refine yJ ?_)|((with_reducible refine eA ?_);first|(refine kU rfl rfl rfl rfl rfl ?_ ?_;· first|decide|(simp only [List.length_append,List.length_cons,List.length_nil,List.length_map,List.length_take,List.length_drop];omega)))|((with_reducible refine eV ?_);first|((with_reducible refine Zk ?_ ?_ ?_ ?_);(·rfl);(·rfl);· omega)|refine qe rfl ?_|refine qb rfl ?_)|((with_reducible refine eK ?_);first|(with_reducible first|refine qT ?_|refine qU ?_)|((with_reducible refine qr ?_ ?_)<;>intro h))|((with_reducible refine eO ?_);first|refine qe rfl ?_|(refine qB rfl ?_ ?_<;>intro h<;>try (exfalso;simp_all;done))|refine qb rfl ?_|(refine qF rfl ?_ rfl ?_;(focus omega))|(refine qt rfl ?_ rfl ?_ ?_;(focus omega);(all_goals intro h))|(refine zP rfl rfl rfl ?_ ?_ ?_;(·simp);(·first|omega|(simp only [List.length_cons,List.length_nil,List.length_map,List.length_append];omega));intro w))|((with_reducible refine eD ?_);first|refine qe rfl ?_|refine qb rfl ?_|((with_reducible refine qC ?_ ?_)<;>intro h))|((with_reducible refine zg ?_ ?_);· intro _;rfl)|((with_reducible refine eH ?_);first|refine zA rfl ?_)|(with_reducible first|refine qex ?_|refine qiq ?_)|((with_reducible refine ih ?_ (zR hp (qe9 ho hd hf)) _ _ _ _ _ _ hu _ _ ?_)<;>(first|omega|assumption|(simp only [*,List.map_append,List.length_append,List.length_cons,List.length_nil,List.map_cons,List.map_nil];done)|(simp_all;done)|(simp_all;omega)))|refine qq rfl ?_)
  have hfail : i < s.length → ¬ Qx s i → Is (bB (zo s)) [] (bB false) [] := fun hi2 h => by
    refine ⟨congrArg bB ?_, rfl⟩
    rw [zo, hok, Bool.true_and]
    exact (kD (i := i) hi2 h).symm
  have hone : i < s.length → (0 < i → (nth s (i - 1)).name ≠ (nth s i).name) → Zu s i := fun hi2 h h0 => by
    have h1 := (ww.1 hok i hi2).2 h0
    have h2 := h h0
    unfold kr at h1; omega
  (refine UG53_5 _ ?_; unfold qdS)
  repeat' (first|((with_reducible refine eG ?_);first|(with_reducible first|refine qX ?_|refine qY ?_|refine qZ ?_|refine q4 ?_|refine zm ?_)|refine qe rfl ?_|refine qb rfl ?_|((with_reducible refine zn ?_ ?_)<;>intro h))|((with_reducible refine eB ?_);first|((with_reducible first|refine zf ?_ ?_|refine ka ?_ ?_|refine zr ?_ ?_)<;>intro h<;>try (exfalso;omega))|((with_reducible refine kG ?_ ?_);· omega)|refine qe rfl ?_|refine qb rfl ?_)|((with_reducible refine eL ?_);first|((with_reducible refine qI ?_ ?_);· rfl)|refine qy rfl rfl ?_|refine qG rfl rfl ?_|refine qz rfl rfl rfl ?_|refine qJ rfl rfl ?_|refine qH rfl rfl ?_|refine qK rfl ?_|refine qe rfl ?_|refine qb rfl ?_)|((with_reducible refine eI ?_);first|((with_reducible refine q5 ?_ ?_ ?_);(·rfl);· omega)|(refine qN rfl rfl ?_ ?_;(·first|omega|(simp only [List.length_cons,List.length_nil,List.length_map,List.length_append];omega)))|(refine qO rfl rfl ?_ ?_;(focus omega))|((with_reducible refine q9 ?_ ?_ ?_);(·rfl);· omega)|(refine qS rfl rfl ?_ ?_;(·first|omega|(simp only [List.length_cons,List.length_nil,List.length_map,List.length_append];omega)))|(refine qW rfl rfl ?_ ?_;(focus omega))|refine qe rfl ?_|refine qb rfl ?_)|((with_reducible refine eC ?_);first|((refine zw (qlj s hs _ hpi.2) rfl rfl ?_ rfl rfl ?_ ?_);(focus first|exact .inl rfl|exact .inr rfl|(refine .inr ?_;simp [qo,qm,qh,qg,SO.hasSl,List.all_map,qi,SV.cells,Function.comp_def];done));(all_goals (intro h));(all_goals (try (exfalso;first|omega|exact h rfl|exact h ⟨rfl,rfl,rfl⟩)))))|((with_reducible refine eK ?_);first|(with_reducible first|refine qT ?_|refine qU ?_)|((with_reducible refine qr ?_ ?_)<;>intro h))|((with_reducible refine eO ?_);first|refine qe rfl ?_|(refine qB rfl ?_ ?_<;>intro h<;>try (exfalso;simp_all;done))|refine qb rfl ?_|(refine qF rfl ?_ rfl ?_;(focus omega))|(refine qt rfl ?_ rfl ?_ ?_;(focus omega);(all_goals intro h)))|((with_reducible refine eD ?_);first|refine qe rfl ?_|refine qb rfl ?_|((with_reducible refine qC ?_ ?_)<;>intro h))|((with_reducible refine eH ?_);first|refine zA rfl ?_)|(with_reducible first|refine XP ?_|refine qey ?_)|refine qq rfl ?_)
  all_goals first
    | exact hfail (by omega) fun h9 => by have := h9.1 (by omega); (try simp only [Int.toNat_natCast, kI, kJ] at *); omega
    | exact hfail (by omega) fun h9 => h h9.2.1
    | exact ⟨congrArg bB (by rw [zo, hok, Bool.true_and]; exact (wn hp (by omega)).symm), rfl⟩
    | skip
  all_goals exact Ws s hs hp0 _ i (by omega) (ww.1 hok i (by omega)).1 (fun hf u0 u1 u2 u3 u4 u5 hu => hnext (by omega) (hone (by omega) (by (try simp only [Int.toNat_natCast, kI, kJ] at *); omega)) (fun j hj => Decidable.not_not.1 h j hj) hf u0 u1 u2 u3 u4 u5 hu _) (fun h9 => hfail (by omega) fun h8 => h9 h8.2.2) 0 (by omega) (fun k hk => by omega) _ _ _ _ _ _ ht 0 _ rfl
theorem xp (s : List TPkg) (hs : s.length ≤ 2000000) (hp0 : PL s) : Ex (fun m => qd prg m 53 [.sl 4 (s.map zh)] []) (bB (zo s)) [] := by
  refine zz.1 ?_
  (refine U53 (nl := 0) rfl ?_; unfold B53)
  repeat' (first|((with_reducible refine eL ?_);first|((with_reducible refine qI ?_ ?_);· rfl)|refine qy rfl rfl ?_|refine qG rfl rfl ?_|refine qz rfl rfl rfl ?_|refine qJ rfl rfl ?_|refine qH rfl rfl ?_|refine qK rfl ?_|refine qe rfl ?_|refine qb rfl ?_)|((with_reducible refine eC ?_);first|((refine zT (qbT s hs hp0) rfl rfl ?_ rfl rfl ?_ ?_);(focus first|exact .inl rfl|exact .inr rfl|(refine .inr ?_;simp [qo,qm,qh,qg,SO.hasSl,List.all_map,qi,SV.cells,Function.comp_def];done));(all_goals (intro h));(all_goals (try (exfalso;simp_all;done)))))|((with_reducible refine eK ?_);first|(with_reducible first|refine qT ?_|refine qU ?_)|((with_reducible refine qr ?_ ?_)<;>intro h))|((with_reducible refine eO ?_);first|refine qe rfl ?_|(refine qB rfl ?_ ?_<;>intro h<;>try (exfalso;simp_all;done))|refine qb rfl ?_|(refine qF rfl ?_ rfl ?_;(focus omega))|(refine qt rfl ?_ rfl ?_ ?_;(focus omega);(all_goals intro h)))|((with_reducible refine eD ?_);first|refine qe rfl ?_|refine qb rfl ?_)|((with_reducible refine eH ?_);first|refine zA rfl ?_)|(with_reducible first|refine qex ?_|refine qiq ?_)|( exact YA s hs hp0 (by assumption) 0 (by omega) (fun j hj => by omega) _ _ _ _ _ _ (by (intro x h1 h2);(constructor);(·intro h9;simp [sel6] at h9);(·rintro (⟨j,hj,-⟩|⟨j,hj,-⟩)<;>omega)) 0 _ rfl)|refine qq rfl ?_)
  all_goals first
    | (refine ⟨congrArg bB ?_, rfl⟩; simp [zo, *]; done)
    | trace_state
end Go.Proofs.Ytfjbclgbpdlkgaa
