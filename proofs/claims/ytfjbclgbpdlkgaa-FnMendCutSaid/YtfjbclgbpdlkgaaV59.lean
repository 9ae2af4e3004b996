/- The evaluator S and what it says of functions: V53a, V53b, V54, V55, V56, V29, V57, V58, V59. -/
import Derived.Test.YtfjbclgbpdlkgaaV53
import Derived.Test.YtfjbclgbpdlkgaaV50
import Derived.Test.YtfjbclgbpdlkgaaTc
/- Drawn disks: one end. -/
namespace Go.Proofs.Ytfjbclgbpdlkgaa
open Go
set_option linter.unusedVariables false
set_option linter.unusedSimpArgs false
set_option maxHeartbeats 4000000
theorem WA {b : List Int} (hb : RdOK b) {p : Int} (hp : 0 ≤ p ∧ p < 450000000) (d : TDisk) (hd : SDisk d) (hf : d.files.length = 6) (s : List TPkg) (hs : s.length ≤ 4) (hsm : kh s ∧ zo s = true) (X6 X7 X9 X14 X15 : List SV) :
    Ev (fun n => qa4 (qd prg n) (n + 1) 1 (.ptr 0 0) (.ptr 4 0) (.ptr 13 0) (.sl 4 (s.map zh)) [rd b p, .arr false 4 [], .arr false 1 [], .arr false 4 [], .box [.osl 1, .osl 2, bB false, .osl 3], .arr false 4 [], .frz 4 X6, .frz 4 X7, .arr false 1 (d.files.map iI), .frz 4 X9, .arr false 4 [], .arr false 1 [], .arr false 4 [], QE 8 d, .frz 4 X14, .frz 4 X15]) (YM b p 1000) := by
  obtain ⟨z0, hz0, e0⟩ := kV hb (p := p) (by omega) 24 (by omega)
  obtain ⟨z1, hz1, e1⟩ := kV hb (p := p + 1) (by omega) (d.files.length : Int) (by omega)
  obtain ⟨z2, hz2, e2⟩ := kV hb (p := p + 1 + 1) (by omega) 4 (by omega)
  refine qin ?_
  unfold JZ
  have ecut : List.drop (Int.toNat 1) (List.take (List.map iI d.files).length (List.map iI d.files)) = List.map iI (List.drop 1 (List.take d.files.length d.files)) := by
    rw [List.length_map, List.map_drop, List.map_take]; rfl
  by_cases h0 : z0 = 0
  · subst h0
    have hq : ∀ v : Int, YM b p 1000 (.tup [jG 1 { d with files := d.files.set z1.toNat v }, .sl 4 (s.map zh)]) [rd b (p + 1 + 1 + 1), .arr false 1 ((d.files.set z1.toNat v).map iI)] := fun v =>
      ⟨{ d with files := d.files.set z1.toNat v }, s, p + 1 + 1 + 1, .inl ⟨rfl, rfl, by dsimp only; rw [List.length_set]; exact hf⟩, ⟨hd.db, hd.ds, hd.jl, hd.js⟩, hs, hsm, by omega, by omega⟩
    obtain rfl | rfl | rfl | rfl : z2 = 0 ∨ z2 = 1 ∨ z2 = 2 ∨ z2 = 3 := by omega
    · repeat' (first|((with_reducible refine eB ?_);first|((with_reducible refine zr ?_ ?_)<;>intro h<;>try (exfalso;omega))|refine qe rfl ?_|refine qb rfl ?_)|((with_reducible refine eL ?_);first|((with_reducible refine qI ?_ ?_);· rfl)|refine qy rfl rfl ?_|refine qG rfl rfl ?_|refine qz rfl rfl rfl ?_|refine qJ rfl rfl ?_|refine qH rfl rfl ?_|refine qK rfl ?_|refine qe rfl ?_|refine qb rfl ?_)|((with_reducible refine eI ?_);first|((with_reducible refine q5 ?_ ?_ ?_);(·rfl);· omega)|(refine qN rfl rfl ?_ ?_;(·first|omega|(simp only [List.length_cons,List.length_nil,List.length_map,List.length_append];omega)))|(refine qO rfl rfl ?_ ?_;(focus omega))|((with_reducible refine q9 ?_ ?_ ?_);(·rfl);· omega)|(refine qS rfl rfl ?_ ?_;(·first|omega|(simp only [List.length_cons,List.length_nil,List.length_map,List.length_append];omega)))|(refine qW rfl rfl ?_ ?_;(focus omega))|refine qe rfl ?_|refine qb rfl ?_)|((with_reducible refine eS ?_);first|((with_reducible first|refine wl ?_ ?_ ?_|refine wm ?_ ?_ ?_);(·rfl);· omega)|((first|refine kz rfl rfl ?_ ?_|refine kA rfl rfl ?_ ?_);(·first|omega|(simp only [List.length_cons,List.length_nil,List.length_map,List.length_append];omega)))|refine qe rfl ?_|refine qb rfl ?_)|((with_reducible refine eC ?_);first|((refine qk (e0 ..) rfl rfl ?_ rfl ?_);(focus first|exact .inl rfl|exact .inr rfl|(refine .inr ?_;simp [qo,qm,qh,qg,SO.hasSl,List.all_map,qi,SV.cells,Function.comp_def];done)))|((refine qk (e1 ..) rfl rfl ?_ rfl ?_);(focus first|exact .inl rfl|exact .inr rfl|(refine .inr ?_;simp [qo,qm,qh,qg,SO.hasSl,List.all_map,qi,SV.cells,Function.comp_def];done)))|((refine qk (e2 ..) rfl rfl ?_ rfl ?_);(focus first|exact .inl rfl|exact .inr rfl|(refine .inr ?_;simp [qo,qm,qh,qg,SO.hasSl,List.all_map,qi,SV.cells,Function.comp_def];done))))|((with_reducible refine eK ?_);first|(with_reducible first|refine qT ?_|refine qU ?_)|((with_reducible refine qr ?_ ?_)<;>intro h))|((with_reducible refine eO ?_);first|refine qe rfl ?_|(refine qB rfl ?_ ?_<;>intro h<;>try (exfalso;simp_all;done))|refine qb rfl ?_|(refine qF rfl ?_ rfl ?_;(focus omega))|(refine qt rfl ?_ rfl ?_ ?_;(focus omega);(all_goals intro h))|(refine zP rfl rfl rfl ?_ ?_ ?_;(·simp);(·first|omega|(simp only [List.length_cons,List.length_nil,List.length_map,List.length_append];omega));intro w))|((with_reducible refine eD ?_);first|refine qe rfl ?_|refine qb rfl ?_|( (refine wr (f := iI) (a := -3) rfl rfl rfl rfl rfl rfl rfl rfl ?_ rfl ?_;(focus omega))))|((with_reducible refine zg ?_ ?_);· intro _;rfl)|(with_reducible refine ku ?_ ?_)|(with_reducible refine wj (hq (-3)) ?_ ?_)|((with_reducible refine yx ?_);(unfold wL))|refine qq rfl ?_)
      all_goals exact ⟨rfl, rfl⟩
    · repeat' (first|((with_reducible refine eB ?_);first|((with_reducible refine zr ?_ ?_)<;>intro h<;>try (exfalso;omega))|refine qe rfl ?_|refine qb rfl ?_)|((with_reducible refine eL ?_);first|((with_reducible refine qI ?_ ?_);· rfl)|refine qy rfl rfl ?_|refine qG rfl rfl ?_|refine qz rfl rfl rfl ?_|refine qJ rfl rfl ?_|refine qH rfl rfl ?_|refine qK rfl ?_|refine qe rfl ?_|refine qb rfl ?_)|((with_reducible refine eI ?_);first|((with_reducible refine q5 ?_ ?_ ?_);(·rfl);· omega)|(refine qN rfl rfl ?_ ?_;(·first|omega|(simp only [List.length_cons,List.length_nil,List.length_map,List.length_append];omega)))|(refine qO rfl rfl ?_ ?_;(focus omega))|((with_reducible refine q9 ?_ ?_ ?_);(·rfl);· omega)|(refine qS rfl rfl ?_ ?_;(·first|omega|(simp only [List.length_cons,List.length_nil,List.length_map,List.length_append];omega)))|(refine qW rfl rfl ?_ ?_;(focus omega))|refine qe rfl ?_|refine qb rfl ?_)|((with_reducible refine eS ?_);first|((with_reducible first|refine wl ?_ ?_ ?_|refine wm ?_ ?_ ?_);(·rfl);· omega)|((first|refine kz rfl rfl ?_ ?_|refine kA rfl rfl ?_ ?_);(·first|omega|(simp only [List.length_cons,List.length_nil,List.length_map,List.length_append];omega)))|refine qe rfl ?_|refine qb rfl ?_)|((with_reducible refine eC ?_);first|((refine qk (e0 ..) rfl rfl ?_ rfl ?_);(focus first|exact .inl rfl|exact .inr rfl|(refine .inr ?_;simp [qo,qm,qh,qg,SO.hasSl,List.all_map,qi,SV.cells,Function.comp_def];done)))|((refine qk (e1 ..) rfl rfl ?_ rfl ?_);(focus first|exact .inl rfl|exact .inr rfl|(refine .inr ?_;simp [qo,qm,qh,qg,SO.hasSl,List.all_map,qi,SV.cells,Function.comp_def];done)))|((refine qk (e2 ..) rfl rfl ?_ rfl ?_);(focus first|exact .inl rfl|exact .inr rfl|(refine .inr ?_;simp [qo,qm,qh,qg,SO.hasSl,List.all_map,qi,SV.cells,Function.comp_def];done))))|((with_reducible refine eK ?_);first|(with_reducible first|refine qT ?_|refine qU ?_)|((with_reducible refine qr ?_ ?_)<;>intro h))|((with_reducible refine eO ?_);first|refine qe rfl ?_|(refine qB rfl ?_ ?_<;>intro h<;>try (exfalso;simp_all;done))|refine qb rfl ?_|(refine qF rfl ?_ rfl ?_;(focus omega))|(refine qt rfl ?_ rfl ?_ ?_;(focus omega);(all_goals intro h))|(refine zP rfl rfl rfl ?_ ?_ ?_;(·simp);(·first|omega|(simp only [List.length_cons,List.length_nil,List.length_map,List.length_append];omega));intro w))|((with_reducible refine eD ?_);first|refine qe rfl ?_|refine qb rfl ?_|( (refine wr (f := iI) (a := 0) rfl rfl rfl rfl rfl rfl rfl rfl ?_ rfl ?_;(focus omega))))|((with_reducible refine zg ?_ ?_);· intro _;rfl)|(with_reducible refine ku ?_ ?_)|(with_reducible refine wj (hq 0) ?_ ?_)|((with_reducible refine yx ?_);(unfold wL))|refine qq rfl ?_)
      all_goals exact ⟨rfl, rfl⟩
    · repeat' (first|((with_reducible refine eB ?_);first|((with_reducible refine zr ?_ ?_)<;>intro h<;>try (exfalso;omega))|refine qe rfl ?_|refine qb rfl ?_)|((with_reducible refine eL ?_);first|((with_reducible refine qI ?_ ?_);· rfl)|refine qy rfl rfl ?_|refine qG rfl rfl ?_|refine qz rfl rfl rfl ?_|refine qJ rfl rfl ?_|refine qH rfl rfl ?_|refine qK rfl ?_|refine qe rfl ?_|refine qb rfl ?_)|((with_reducible refine eI ?_);first|((with_reducible refine q5 ?_ ?_ ?_);(·rfl);· omega)|(refine qN rfl rfl ?_ ?_;(·first|omega|(simp only [List.length_cons,List.length_nil,List.length_map,List.length_append];omega)))|(refine qO rfl rfl ?_ ?_;(focus omega))|((with_reducible refine q9 ?_ ?_ ?_);(·rfl);· omega)|(refine qS rfl rfl ?_ ?_;(·first|omega|(simp only [List.length_cons,List.length_nil,List.length_map,List.length_append];omega)))|(refine qW rfl rfl ?_ ?_;(focus omega))|refine qe rfl ?_|refine qb rfl ?_)|((with_reducible refine eS ?_);first|((with_reducible first|refine wl ?_ ?_ ?_|refine wm ?_ ?_ ?_);(·rfl);· omega)|((first|refine kz rfl rfl ?_ ?_|refine kA rfl rfl ?_ ?_);(·first|omega|(simp only [List.length_cons,List.length_nil,List.length_map,List.length_append];omega)))|refine qe rfl ?_|refine qb rfl ?_)|((with_reducible refine eC ?_);first|((refine qk (e0 ..) rfl rfl ?_ rfl ?_);(focus first|exact .inl rfl|exact .inr rfl|(refine .inr ?_;simp [qo,qm,qh,qg,SO.hasSl,List.all_map,qi,SV.cells,Function.comp_def];done)))|((refine qk (e1 ..) rfl rfl ?_ rfl ?_);(focus first|exact .inl rfl|exact .inr rfl|(refine .inr ?_;simp [qo,qm,qh,qg,SO.hasSl,List.all_map,qi,SV.cells,Function.comp_def];done)))|((refine qk (e2 ..) rfl rfl ?_ rfl ?_);(focus first|exact .inl rfl|exact .inr rfl|(refine .inr ?_;simp [qo,qm,qh,qg,SO.hasSl,List.all_map,qi,SV.cells,Function.comp_def];done))))|((with_reducible refine eK ?_);first|(with_reducible first|refine qT ?_|refine qU ?_)|((with_reducible refine qr ?_ ?_)<;>intro h))|((with_reducible refine eO ?_);first|refine qe rfl ?_|(refine qB rfl ?_ ?_<;>intro h<;>try (exfalso;simp_all;done))|refine qb rfl ?_|(refine qF rfl ?_ rfl ?_;(focus omega))|(refine qt rfl ?_ rfl ?_ ?_;(focus omega);(all_goals intro h))|(refine zP rfl rfl rfl ?_ ?_ ?_;(·simp);(·first|omega|(simp only [List.length_cons,List.length_nil,List.length_map,List.length_append];omega));intro w))|((with_reducible refine eD ?_);first|refine qe rfl ?_|refine qb rfl ?_|( (refine wr (f := iI) (a := 5) rfl rfl rfl rfl rfl rfl rfl rfl ?_ rfl ?_;(focus omega))))|((with_reducible refine zg ?_ ?_);· intro _;rfl)|(with_reducible refine ku ?_ ?_)|(with_reducible refine wj (hq 5) ?_ ?_)|((with_reducible refine yx ?_);(unfold wL))|refine qq rfl ?_)
      all_goals exact ⟨rfl, rfl⟩
    · repeat' (first|((with_reducible refine eB ?_);first|((with_reducible refine zr ?_ ?_)<;>intro h<;>try (exfalso;omega))|refine qe rfl ?_|refine qb rfl ?_)|((with_reducible refine eL ?_);first|((with_reducible refine qI ?_ ?_);· rfl)|refine qy rfl rfl ?_|refine qG rfl rfl ?_|refine qz rfl rfl rfl ?_|refine qJ rfl rfl ?_|refine qH rfl rfl ?_|refine qK rfl ?_|refine qe rfl ?_|refine qb rfl ?_)|((with_reducible refine eI ?_);first|((with_reducible refine q5 ?_ ?_ ?_);(·rfl);· omega)|(refine qN rfl rfl ?_ ?_;(·first|omega|(simp only [List.length_cons,List.length_nil,List.length_map,List.length_append];omega)))|(refine qO rfl rfl ?_ ?_;(focus omega))|((with_reducible refine q9 ?_ ?_ ?_);(·rfl);· omega)|(refine qS rfl rfl ?_ ?_;(·first|omega|(simp only [List.length_cons,List.length_nil,List.length_map,List.length_append];omega)))|(refine qW rfl rfl ?_ ?_;(focus omega))|refine qe rfl ?_|refine qb rfl ?_)|((with_reducible refine eS ?_);first|((with_reducible first|refine wl ?_ ?_ ?_|refine wm ?_ ?_ ?_);(·rfl);· omega)|((first|refine kz rfl rfl ?_ ?_|refine kA rfl rfl ?_ ?_);(·first|omega|(simp only [List.length_cons,List.length_nil,List.length_map,List.length_append];omega)))|refine qe rfl ?_|refine qb rfl ?_)|((with_reducible refine eC ?_);first|((refine qk (e0 ..) rfl rfl ?_ rfl ?_);(focus first|exact .inl rfl|exact .inr rfl|(refine .inr ?_;simp [qo,qm,qh,qg,SO.hasSl,List.all_map,qi,SV.cells,Function.comp_def];done)))|((refine qk (e1 ..) rfl rfl ?_ rfl ?_);(focus first|exact .inl rfl|exact .inr rfl|(refine .inr ?_;simp [qo,qm,qh,qg,SO.hasSl,List.all_map,qi,SV.cells,Function.comp_def];done)))|((refine qk (e2 ..) rfl rfl ?_ rfl ?_);(focus first|exact .inl rfl|exact .inr rfl|(refine .inr ?_;simp [qo,qm,qh,qg,SO.hasSl,List.all_map,qi,SV.cells,Function.comp_def];done))))|((with_reducible refine eK ?_);first|(with_reducible first|refine qT ?_|refine qU ?_)|((with_reducible refine qr ?_ ?_)<;>intro h))|((with_reducible refine eO ?_);first|refine qe rfl ?_|(refine qB rfl ?_ ?_<;>intro h<;>try (exfalso;simp_all;done))|refine qb rfl ?_|(refine qF rfl ?_ rfl ?_;(focus omega))|(refine qt rfl ?_ rfl ?_ ?_;(focus omega);(all_goals intro h))|(refine zP rfl rfl rfl ?_ ?_ ?_;(·simp);(·first|omega|(simp only [List.length_cons,List.length_nil,List.length_map,List.length_append];omega));intro w))|((with_reducible refine eD ?_);first|refine qe rfl ?_|refine qb rfl ?_|( (refine wr (f := iI) (a := 10) rfl rfl rfl rfl rfl rfl rfl rfl ?_ rfl ?_;(focus omega))))|((with_reducible refine zg ?_ ?_);· intro _;rfl)|(with_reducible refine ku ?_ ?_)|(with_reducible refine wj (hq 10) ?_ ?_)|((with_reducible refine yx ?_);(unfold wL))|refine qq rfl ?_)
      all_goals exact ⟨rfl, rfl⟩
  · repeat' (first|((with_reducible refine eB ?_);first|((with_reducible refine zr ?_ ?_)<;>intro h<;>try (exfalso;omega))|refine qe rfl ?_|refine qb rfl ?_)|((with_reducible refine eL ?_);first|((with_reducible refine qI ?_ ?_);· rfl)|refine qy rfl rfl ?_|refine qG rfl rfl ?_|refine qz rfl rfl rfl ?_|refine qJ rfl rfl ?_|refine qH rfl rfl ?_|refine qK rfl ?_|refine qe rfl ?_|refine qb rfl ?_)|((with_reducible refine eI ?_);first|((with_reducible refine q5 ?_ ?_ ?_);(·rfl);· omega)|(refine qN rfl rfl ?_ ?_;(·first|omega|(simp only [List.length_cons,List.length_nil,List.length_map,List.length_append];omega)))|(refine qO rfl rfl ?_ ?_;(focus omega))|((with_reducible refine q9 ?_ ?_ ?_);(·rfl);· omega)|(refine qS rfl rfl ?_ ?_;(·first|omega|(simp only [List.length_cons,List.length_nil,List.length_map,List.length_append];omega)))|(refine qW rfl rfl ?_ ?_;(focus omega))|refine qe rfl ?_|refine qb rfl ?_)|((with_reducible refine eS ?_);first|((with_reducible first|refine wl ?_ ?_ ?_|refine wm ?_ ?_ ?_);(·rfl);· omega)|((first|refine kz rfl rfl ?_ ?_|refine kA rfl rfl ?_ ?_);(·first|omega|(simp only [List.length_cons,List.length_nil,List.length_map,List.length_append];omega)))|refine qe rfl ?_|refine qb rfl ?_)|((with_reducible refine eC ?_);first|((refine qk (e0 ..) rfl rfl ?_ rfl ?_);(focus first|exact .inl rfl|exact .inr rfl|(refine .inr ?_;simp [qo,qm,qh,qg,SO.hasSl,List.all_map,qi,SV.cells,Function.comp_def];done)))|((refine zk (qag hb (by omega)) rfl rfl ?_);((rintro _ _ ⟨t,q',rfl,rfl,htl,hts,hq1,hq2⟩)<;>(first|(refine zF ?_ rfl ?_;(focus first|exact .inl rfl|exact .inr rfl|(refine .inr ?_;simp [qo,qm,qh,qg,SO.hasSl,List.all_map,qi,SV.cells,Function.comp_def];done)))|(refine zl ?_ rfl ?_;(focus first|rfl|(simp [qo,qm,qh,qg,SO.hasSl,List.all_map,qi,SV.cells,Function.comp_def];done)))))))|((with_reducible refine eK ?_);first|(with_reducible first|refine qT ?_|refine qU ?_)|((with_reducible refine qr ?_ ?_)<;>intro h))|((with_reducible refine eO ?_);first|refine qe rfl ?_|(refine qB rfl ?_ ?_<;>intro h<;>try (exfalso;simp_all;done))|refine qb rfl ?_|(refine qF rfl ?_ rfl ?_;(focus omega))|(refine qt rfl ?_ rfl ?_ ?_;(focus omega);(all_goals intro h))|(refine zP rfl rfl rfl ?_ ?_ ?_;(·simp);(·first|omega|(simp only [List.length_cons,List.length_nil,List.length_map,List.length_append];omega));intro w))|((with_reducible refine eD ?_);first|refine qe rfl ?_|refine qb rfl ?_|( (refine qan rfl rfl ⟨by simp only [List.length_map];omega,Nat.le_refl _⟩ rfl rfl rfl ?_)))|((with_reducible refine zg ?_ ?_);· intro _;rfl)|((with_reducible refine yx ?_);(unfold wL))|refine qq rfl ?_)
    all_goals first
      | exact ⟨d, s, _, .inl ⟨rfl, rfl, hf⟩, hd, hs, hsm, by omega, by omega⟩
      | exact ⟨{ d with db := t }, s, _, .inl ⟨rfl, rfl, hf⟩, ⟨htl, hts, hd.jl, hd.js⟩, hs, hsm, by omega, by omega⟩
      | (refine ⟨{ d with has := false }, s, _, .inl ⟨rfl, rfl, hf⟩, ⟨hd.db, hd.ds, hd.jl, hd.js⟩, hs, hsm, ?_, ?_⟩ <;> omega)
      | (refine ⟨{ d with has := true }, s, _, .inl ⟨rfl, rfl, hf⟩, ⟨hd.db, hd.ds, hd.jl, hd.js⟩, hs, hsm, ?_, ?_⟩ <;> omega)
      | (refine ⟨{ d with files := (d.files.take d.files.length).drop 1 }, s, _, .inr ⟨?_, rfl, ?_⟩, ⟨hd.db, hd.ds, hd.jl, hd.js⟩, hs, hsm, ?_, ?_⟩ <;> first | omega | (dsimp only; rw [List.length_drop, List.length_take]; omega) | (rw [ecut]) | trace_state)
      | trace_state
end Go.Proofs.Ytfjbclgbpdlkgaa

/- Drawn disks: the other end. -/
namespace Go.Proofs.Ytfjbclgbpdlkgaa
open Go
set_option linter.unusedVariables false
set_option linter.unusedSimpArgs false
set_option maxHeartbeats 4000000
theorem jM {b : List Int} (hb : RdOK b) {p : Int} (hp : 0 ≤ p ∧ p < 450000000) (d : TDisk) (hd : SDisk d) (hf : d.files.length = 6) (s : List TPkg) (hs : s.length ≤ 4) (hsm : kh s ∧ zo s = true) (X6 X7 X9 X14 X15 X16 : List SV) :
    Ev (fun n => qa4 (qd prg n) (n + 1) 1 (.ptr 0 0) (.ptr 4 0) (.ptr 13 0) (.sl 4 (s.map zh)) [rd b p, .arr false 4 [], .arr false 1 [], .arr false 4 [], .box [.osl 1, .osl 2, bB false, .osl 3], .arr false 4 [], .frz 4 X6, .frz 4 X7, .arr false 1 (d.files.map iI), .frz 4 X9, .arr false 4 [], .arr false 1 [], .arr false 4 [], QE 8 d, .frz 4 X14, .frz 4 X15, .frz 4 X16]) (YM b p 1000) := by
  obtain ⟨z0, hz0, e0⟩ := kV hb (p := p) (by omega) 24 (by omega)
  obtain ⟨z1, hz1, e1⟩ := kV hb (p := p + 1) (by omega) (d.files.length : Int) (by omega)
  obtain ⟨z2, hz2, e2⟩ := kV hb (p := p + 1 + 1) (by omega) 4 (by omega)
  refine qin ?_
  unfold JZ
  have ecut : List.drop (Int.toNat 1) (List.take (List.map iI d.files).length (List.map iI d.files)) = List.map iI (List.drop 1 (List.take d.files.length d.files)) := by
    rw [List.length_map, List.map_drop, List.map_take]; rfl
  by_cases h0 : z0 = 0
  · subst h0
    have hq : ∀ v : Int, YM b p 1000 (.tup [jG 1 { d with files := d.files.set z1.toNat v }, .sl 4 (s.map zh)]) [rd b (p + 1 + 1 + 1), .arr false 1 ((d.files.set z1.toNat v).map iI)] := fun v =>
      ⟨{ d with files := d.files.set z1.toNat v }, s, p + 1 + 1 + 1, .inl ⟨rfl, rfl, by dsimp only; rw [List.length_set]; exact hf⟩, ⟨hd.db, hd.ds, hd.jl, hd.js⟩, hs, hsm, by omega, by omega⟩
    obtain rfl | rfl | rfl | rfl : z2 = 0 ∨ z2 = 1 ∨ z2 = 2 ∨ z2 = 3 := by omega
    · repeat' (first|((with_reducible refine eB ?_);first|((with_reducible refine zr ?_ ?_)<;>intro h<;>try (exfalso;omega))|refine qe rfl ?_|refine qb rfl ?_)|((with_reducible refine eL ?_);first|((with_reducible refine qI ?_ ?_);· rfl)|refine qy rfl rfl ?_|refine qG rfl rfl ?_|refine qz rfl rfl rfl ?_|refine qJ rfl rfl ?_|refine qH rfl rfl ?_|refine qK rfl ?_|refine qe rfl ?_|refine qb rfl ?_)|((with_reducible refine eI ?_);first|((with_reducible refine q5 ?_ ?_ ?_);(·rfl);· omega)|(refine qN rfl rfl ?_ ?_;(·first|omega|(simp only [List.length_cons,List.length_nil,List.length_map,List.length_append];omega)))|(refine qO rfl rfl ?_ ?_;(focus omega))|((with_reducible refine q9 ?_ ?_ ?_);(·rfl);· omega)|(refine qS rfl rfl ?_ ?_;(·first|omega|(simp only [List.length_cons,List.length_nil,List.length_map,List.length_append];omega)))|(refine qW rfl rfl ?_ ?_;(focus omega))|refine qe rfl ?_|refine qb rfl ?_)|((with_reducible refine eS ?_);first|((with_reducible first|refine wl ?_ ?_ ?_|refine wm ?_ ?_ ?_);(·rfl);· omega)|((first|refine kz rfl rfl ?_ ?_|refine kA rfl rfl ?_ ?_);(·first|omega|(simp only [List.length_cons,List.length_nil,List.length_map,List.length_append];omega)))|refine qe rfl ?_|refine qb rfl ?_)|((with_reducible refine eC ?_);first|((refine qk (e0 ..) rfl rfl ?_ rfl ?_);(focus first|exact .inl rfl|exact .inr rfl|(refine .inr ?_;simp [qo,qm,qh,qg,SO.hasSl,List.all_map,qi,SV.cells,Function.comp_def];done)))|((refine qk (e1 ..) rfl rfl ?_ rfl ?_);(focus first|exact .inl rfl|exact .inr rfl|(refine .inr ?_;simp [qo,qm,qh,qg,SO.hasSl,List.all_map,qi,SV.cells,Function.comp_def];done)))|((refine qk (e2 ..) rfl rfl ?_ rfl ?_);(focus first|exact .inl rfl|exact .inr rfl|(refine .inr ?_;simp [qo,qm,qh,qg,SO.hasSl,List.all_map,qi,SV.cells,Function.comp_def];done))))|((with_reducible refine eK ?_);first|(with_reducible first|refine qT ?_|refine qU ?_)|((with_reducible refine qr ?_ ?_)<;>intro h))|((with_reducible refine eO ?_);first|refine qe rfl ?_|(refine qB rfl ?_ ?_<;>intro h<;>try (exfalso;simp_all;done))|refine qb rfl ?_|(refine qF rfl ?_ rfl ?_;(focus omega))|(refine qt rfl ?_ rfl ?_ ?_;(focus omega);(all_goals intro h))|(refine zP rfl rfl rfl ?_ ?_ ?_;(·simp);(·first|omega|(simp only [List.length_cons,List.length_nil,List.length_map,List.length_append];omega));intro w))|((with_reducible refine eD ?_);first|refine qe rfl ?_|refine qb rfl ?_|( (refine wr (f := iI) (a := -3) rfl rfl rfl rfl rfl rfl rfl rfl ?_ rfl ?_;(focus omega))))|((with_reducible refine zg ?_ ?_);· intro _;rfl)|(with_reducible refine ku ?_ ?_)|(with_reducible refine wj (hq (-3)) ?_ ?_)|((with_reducible refine yx ?_);(unfold wL))|refine qq rfl ?_)
      all_goals exact ⟨rfl, rfl⟩
    · repeat' (first|((with_reducible refine eB ?_);first|((with_reducible refine zr ?_ ?_)<;>intro h<;>try (exfalso;omega))|refine qe rfl ?_|refine qb rfl ?_)|((with_reducible refine eL ?_);first|((with_reducible refine qI ?_ ?_);· rfl)|refine qy rfl rfl ?_|refine qG rfl rfl ?_|refine qz rfl rfl rfl ?_|refine qJ rfl rfl ?_|refine qH rfl rfl ?_|refine qK rfl ?_|refine qe rfl ?_|refine qb rfl ?_)|((with_reducible refine eI ?_);first|((with_reducible refine q5 ?_ ?_ ?_);(·rfl);· omega)|(refine qN rfl rfl ?_ ?_;(·first|omega|(simp only [List.length_cons,List.length_nil,List.length_map,List.length_append];omega)))|(refine qO rfl rfl ?_ ?_;(focus omega))|((with_reducible refine q9 ?_ ?_ ?_);(·rfl);· omega)|(refine qS rfl rfl ?_ ?_;(·first|omega|(simp only [List.length_cons,List.length_nil,List.length_map,List.length_append];omega)))|(refine qW rfl rfl ?_ ?_;(focus omega))|refine qe rfl ?_|refine qb rfl ?_)|((with_reducible refine eS ?_);first|((with_reducible first|refine wl ?_ ?_ ?_|refine wm ?_ ?_ ?_);(·rfl);· omega)|((first|refine kz rfl rfl ?_ ?_|refine kA rfl rfl ?_ ?_);(·first|omega|(simp only [List.length_cons,List.length_nil,List.length_map,List.length_append];omega)))|refine qe rfl ?_|refine qb rfl ?_)|((with_reducible refine eC ?_);first|((refine qk (e0 ..) rfl rfl ?_ rfl ?_);(focus first|exact .inl rfl|exact .inr rfl|(refine .inr ?_;simp [qo,qm,qh,qg,SO.hasSl,List.all_map,qi,SV.cells,Function.comp_def];done)))|((refine qk (e1 ..) rfl rfl ?_ rfl ?_);(focus first|exact .inl rfl|exact .inr rfl|(refine .inr ?_;simp [qo,qm,qh,qg,SO.hasSl,List.all_map,qi,SV.cells,Function.comp_def];done)))|((refine qk (e2 ..) rfl rfl ?_ rfl ?_);(focus first|exact .inl rfl|exact .inr rfl|(refine .inr ?_;simp [qo,qm,qh,qg,SO.hasSl,List.all_map,qi,SV.cells,Function.comp_def];done))))|((with_reducible refine eK ?_);first|(with_reducible first|refine qT ?_|refine qU ?_)|((with_reducible refine qr ?_ ?_)<;>intro h))|((with_reducible refine eO ?_);first|refine qe rfl ?_|(refine qB rfl ?_ ?_<;>intro h<;>try (exfalso;simp_all;done))|refine qb rfl ?_|(refine qF rfl ?_ rfl ?_;(focus omega))|(refine qt rfl ?_ rfl ?_ ?_;(focus omega);(all_goals intro h))|(refine zP rfl rfl rfl ?_ ?_ ?_;(·simp);(·first|omega|(simp only [List.length_cons,List.length_nil,List.length_map,List.length_append];omega));intro w))|((with_reducible refine eD ?_);first|refine qe rfl ?_|refine qb rfl ?_|( (refine wr (f := iI) (a := 0) rfl rfl rfl rfl rfl rfl rfl rfl ?_ rfl ?_;(focus omega))))|((with_reducible refine zg ?_ ?_);· intro _;rfl)|(with_reducible refine ku ?_ ?_)|(with_reducible refine wj (hq 0) ?_ ?_)|((with_reducible refine yx ?_);(unfold wL))|refine qq rfl ?_)
      all_goals exact ⟨rfl, rfl⟩
    · repeat' (first|((with_reducible refine eB ?_);first|((with_reducible refine zr ?_ ?_)<;>intro h<;>try (exfalso;omega))|refine qe rfl ?_|refine qb rfl ?_)|((with_reducible refine eL ?_);first|((with_reducible refine qI ?_ ?_);· rfl)|refine qy rfl rfl ?_|refine qG rfl rfl ?_|refine qz rfl rfl rfl ?_|refine qJ rfl rfl ?_|refine qH rfl rfl ?_|refine qK rfl ?_|refine qe rfl ?_|refine qb rfl ?_)|((with_reducible refine eI ?_);first|((with_reducible refine q5 ?_ ?_ ?_);(·rfl);· omega)|(refine qN rfl rfl ?_ ?_;(·first|omega|(simp only [List.length_cons,List.length_nil,List.length_map,List.length_append];omega)))|(refine qO rfl rfl ?_ ?_;(focus omega))|((with_reducible refine q9 ?_ ?_ ?_);(·rfl);· omega)|(refine qS rfl rfl ?_ ?_;(·first|omega|(simp only [List.length_cons,List.length_nil,List.length_map,List.length_append];omega)))|(refine qW rfl rfl ?_ ?_;(focus omega))|refine qe rfl ?_|refine qb rfl ?_)|((with_reducible refine eS ?_);first|((with_reducible first|refine wl ?_ ?_ ?_|refine wm ?_ ?_ ?_);(·rfl);· omega)|((first|refine kz rfl rfl ?_ ?_|refine kA rfl rfl ?_ ?_);(·first|omega|(simp only [List.length_cons,List.length_nil,List.length_map,List.length_append];omega)))|refine qe rfl ?_|refine qb rfl ?_)|((with_reducible refine eC ?_);first|((refine qk (e0 ..) rfl rfl ?_ rfl ?_);(focus first|exact .inl rfl|exact .inr rfl|(refine .inr ?_;simp [qo,qm,qh,qg,SO.hasSl,List.all_map,qi,SV.cells,Function.comp_def];done)))|((refine qk (e1 ..) rfl rfl ?_ rfl ?_);(focus first|exact .inl rfl|exact .inr rfl|(refine .inr ?_;simp [qo,qm,qh,qg,SO.hasSl,List.all_map,qi,SV.cells,Function.comp_def];done)))|((refine qk (e2 ..) rfl rfl ?_ rfl ?_);(focus first|exact .inl rfl|exact .inr rfl|(refine .inr ?_;simp [qo,qm,qh,qg,SO.hasSl,List.all_map,qi,SV.cells,Function.comp_def];done))))|((with_reducible refine eK ?_);first|(with_reducible first|refine qT ?_|refine qU ?_)|((with_reducible refine qr ?_ ?_)<;>intro h))|((with_reducible refine eO ?_);first|refine qe rfl ?_|(refine qB rfl ?_ ?_<;>intro h<;>try (exfalso;simp_all;done))|refine qb rfl ?_|(refine qF rfl ?_ rfl ?_;(focus omega))|(refine qt rfl ?_ rfl ?_ ?_;(focus omega);(all_goals intro h))|(refine zP rfl rfl rfl ?_ ?_ ?_;(·simp);(·first|omega|(simp only [List.length_cons,List.length_nil,List.length_map,List.length_append];omega));intro w))|((with_reducible refine eD ?_);first|refine qe rfl ?_|refine qb rfl ?_|( (refine wr (f := iI) (a := 5) rfl rfl rfl rfl rfl rfl rfl rfl ?_ rfl ?_;(focus omega))))|((with_reducible refine zg ?_ ?_);· intro _;rfl)|(with_reducible refine ku ?_ ?_)|(with_reducible refine wj (hq 5) ?_ ?_)|((with_reducible refine yx ?_);(unfold wL))|refine qq rfl ?_)
      all_goals exact ⟨rfl, rfl⟩
    · repeat' (first|((with_reducible refine eB ?_);first|((with_reducible refine zr ?_ ?_)<;>intro h<;>try (exfalso;omega))|refine qe rfl ?_|refine qb rfl ?_)|((with_reducible refine eL ?_);first|((with_reducible refine qI ?_ ?_);· rfl)|refine qy rfl rfl ?_|refine qG rfl rfl ?_|refine qz rfl rfl rfl ?_|refine qJ rfl rfl ?_|refine qH rfl rfl ?_|refine qK rfl ?_|refine qe rfl ?_|refine qb rfl ?_)|((with_reducible refine eI ?_);first|((with_reducible refine q5 ?_ ?_ ?_);(·rfl);· omega)|(refine qN rfl rfl ?_ ?_;(·first|omega|(simp only [List.length_cons,List.length_nil,List.length_map,List.length_append];omega)))|(refine qO rfl rfl ?_ ?_;(focus omega))|((with_reducible refine q9 ?_ ?_ ?_);(·rfl);· omega)|(refine qS rfl rfl ?_ ?_;(·first|omega|(simp only [List.length_cons,List.length_nil,List.length_map,List.length_append];omega)))|(refine qW rfl rfl ?_ ?_;(focus omega))|refine qe rfl ?_|refine qb rfl ?_)|((with_reducible refine eS ?_);first|((with_reducible first|refine wl ?_ ?_ ?_|refine wm ?_ ?_ ?_);(·rfl);· omega)|((first|refine kz rfl rfl ?_ ?_|refine kA rfl rfl ?_ ?_);(·first|omega|(simp only [List.length_cons,List.length_nil,List.length_map,List.length_append];omega)))|refine qe rfl ?_|refine qb rfl ?_)|((with_reducible refine eC ?_);first|((refine qk (e0 ..) rfl rfl ?_ rfl ?_);(focus first|exact .inl rfl|exact .inr rfl|(refine .inr ?_;simp [qo,qm,qh,qg,SO.hasSl,List.all_map,qi,SV.cells,Function.comp_def];done)))|((refine qk (e1 ..) rfl rfl ?_ rfl ?_);(focus first|exact .inl rfl|exact .inr rfl|(refine .inr ?_;simp [qo,qm,qh,qg,SO.hasSl,List.all_map,qi,SV.cells,Function.comp_def];done)))|((refine qk (e2 ..) rfl rfl ?_ rfl ?_);(focus first|exact .inl rfl|exact .inr rfl|(refine .inr ?_;simp [qo,qm,qh,qg,SO.hasSl,List.all_map,qi,SV.cells,Function.comp_def];done))))|((with_reducible refine eK ?_);first|(with_reducible first|refine qT ?_|refine qU ?_)|((with_reducible refine qr ?_ ?_)<;>intro h))|((with_reducible refine eO ?_);first|refine qe rfl ?_|(refine qB rfl ?_ ?_<;>intro h<;>try (exfalso;simp_all;done))|refine qb rfl ?_|(refine qF rfl ?_ rfl ?_;(focus omega))|(refine qt rfl ?_ rfl ?_ ?_;(focus omega);(all_goals intro h))|(refine zP rfl rfl rfl ?_ ?_ ?_;(·simp);(·first|omega|(simp only [List.length_cons,List.length_nil,List.length_map,List.length_append];omega));intro w))|((with_reducible refine eD ?_);first|refine qe rfl ?_|refine qb rfl ?_|( (refine wr (f := iI) (a := 10) rfl rfl rfl rfl rfl rfl rfl rfl ?_ rfl ?_;(focus omega))))|((with_reducible refine zg ?_ ?_);· intro _;rfl)|(with_reducible refine ku ?_ ?_)|(with_reducible refine wj (hq 10) ?_ ?_)|((with_reducible refine yx ?_);(unfold wL))|refine qq rfl ?_)
      all_goals exact ⟨rfl, rfl⟩
  · repeat' (first|((with_reducible refine eB ?_);first|((with_reducible refine zr ?_ ?_)<;>intro h<;>try (exfalso;omega))|refine qe rfl ?_|refine qb rfl ?_)|((with_reducible refine eL ?_);first|((with_reducible refine qI ?_ ?_);· rfl)|refine qy rfl rfl ?_|refine qG rfl rfl ?_|refine qz rfl rfl rfl ?_|refine qJ rfl rfl ?_|refine qH rfl rfl ?_|refine qK rfl ?_|refine qe rfl ?_|refine qb rfl ?_)|((with_reducible refine eI ?_);first|((with_reducible refine q5 ?_ ?_ ?_);(·rfl);· omega)|(refine qN rfl rfl ?_ ?_;(·first|omega|(simp only [List.length_cons,List.length_nil,List.length_map,List.length_append];omega)))|(refine qO rfl rfl ?_ ?_;(focus omega))|((with_reducible refine q9 ?_ ?_ ?_);(·rfl);· omega)|(refine qS rfl rfl ?_ ?_;(·first|omega|(simp only [List.length_cons,List.length_nil,List.length_map,List.length_append];omega)))|(refine qW rfl rfl ?_ ?_;(focus omega))|refine qe rfl ?_|refine qb rfl ?_)|((with_reducible refine eS ?_);first|((with_reducible first|refine wl ?_ ?_ ?_|refine wm ?_ ?_ ?_);(·rfl);· omega)|((first|refine kz rfl rfl ?_ ?_|refine kA rfl rfl ?_ ?_);(·first|omega|(simp only [List.length_cons,List.length_nil,List.length_map,List.length_append];omega)))|refine qe rfl ?_|refine qb rfl ?_)|((with_reducible refine eC ?_);first|((refine qk (e0 ..) rfl rfl ?_ rfl ?_);(focus first|exact .inl rfl|exact .inr rfl|(refine .inr ?_;simp [qo,qm,qh,qg,SO.hasSl,List.all_map,qi,SV.cells,Function.comp_def];done)))|((refine zk (qag hb (by omega)) rfl rfl ?_);((rintro _ _ ⟨t,q',rfl,rfl,htl,hts,hq1,hq2⟩)<;>(first|(refine zF ?_ rfl ?_;(focus first|exact .inl rfl|exact .inr rfl|(refine .inr ?_;simp [qo,qm,qh,qg,SO.hasSl,List.all_map,qi,SV.cells,Function.comp_def];done)))|(refine zl ?_ rfl ?_;(focus first|rfl|(simp [qo,qm,qh,qg,SO.hasSl,List.all_map,qi,SV.cells,Function.comp_def];done)))))))|((with_reducible refine eK ?_);first|(with_reducible first|refine qT ?_|refine qU ?_)|((with_reducible refine qr ?_ ?_)<;>intro h))|((with_reducible refine eO ?_);first|refine qe rfl ?_|(refine qB rfl ?_ ?_<;>intro h<;>try (exfalso;simp_all;done))|refine qb rfl ?_|(refine qF rfl ?_ rfl ?_;(focus omega))|(refine qt rfl ?_ rfl ?_ ?_;(focus omega);(all_goals intro h))|(refine zP rfl rfl rfl ?_ ?_ ?_;(·simp);(·first|omega|(simp only [List.length_cons,List.length_nil,List.length_map,List.length_append];omega));intro w))|((with_reducible refine eD ?_);first|refine qe rfl ?_|refine qb rfl ?_|( (refine qan rfl rfl ⟨by simp only [List.length_map];omega,Nat.le_refl _⟩ rfl rfl rfl ?_)))|((with_reducible refine zg ?_ ?_);· intro _;rfl)|((with_reducible refine yx ?_);(unfold wL))|refine qq rfl ?_)
    all_goals first
      | exact ⟨d, s, _, .inl ⟨rfl, rfl, hf⟩, hd, hs, hsm, by omega, by omega⟩
      | exact ⟨{ d with db := t }, s, _, .inl ⟨rfl, rfl, hf⟩, ⟨htl, hts, hd.jl, hd.js⟩, hs, hsm, by omega, by omega⟩
      | (refine ⟨{ d with has := false }, s, _, .inl ⟨rfl, rfl, hf⟩, ⟨hd.db, hd.ds, hd.jl, hd.js⟩, hs, hsm, ?_, ?_⟩ <;> omega)
      | (refine ⟨{ d with has := true }, s, _, .inl ⟨rfl, rfl, hf⟩, ⟨hd.db, hd.ds, hd.jl, hd.js⟩, hs, hsm, ?_, ?_⟩ <;> omega)
      | (refine ⟨{ d with files := (d.files.take d.files.length).drop 1 }, s, _, .inr ⟨?_, rfl, ?_⟩, ⟨hd.db, hd.ds, hd.jl, hd.js⟩, hs, hsm, ?_, ?_⟩ <;> first | omega | (dsimp only; rw [List.length_drop, List.length_take]; omega) | (rw [ecut]) | trace_state)
      | trace_state
end Go.Proofs.Ytfjbclgbpdlkgaa

/- Drawn disks: a disk. -/
namespace Go.Proofs.Ytfjbclgbpdlkgaa
open Go
set_option linter.unusedVariables false
set_option linter.unusedSimpArgs false
set_option maxHeartbeats 4000000
theorem jb : yX.files.length = 6 := rfl
theorem yL {b : List Int} (hb : RdOK b) {p : Int} (hp : 0 ≤ p ∧ p < 400000000) : Ev (fun n => qd prg n 42 [.ptr 0 0] [rd b p]) (YM b p 2000) := by
  have hN := qb6
  (refine U42 (nl := 1) rfl ?_; unfold B42)
  repeat' (first|((with_reducible refine eB ?_);first|((with_reducible first|refine ka ?_ ?_|refine zr ?_ ?_)<;>intro h<;>try (exfalso;omega))|refine qe rfl ?_|refine qb rfl ?_)|((with_reducible refine eC ?_);first|((refine z5 (kV hb (by omega) _ (by omega)) rfl rfl ?_ (fun _ => rfl) ?_);(·first|exact .inl rfl|exact .inr (fun _ => rfl));(first|(have q0 := z3;clear q0;intro z4 hz4)|(have q0 := z2;clear q0;intro z3 hz3)|(have q0 := z;clear q0;intro z2 hz2)|(intro z hz)))|((refine qk (hN ..) rfl rfl ?_ rfl ?_);(focus first|exact .inl rfl|exact .inr rfl|(refine .inr ?_;simp [qo,qm,qh,qg,SO.hasSl,List.all_map,qi,SV.cells,Function.comp_def];done)))|((refine zk (Zt hb (by omega)) rfl rfl ?_);((rintro _ _ ⟨s,q,rfl,rfl,hs,hsm,hq1,hq2,hst⟩)<;>(first|(refine zF ?_ rfl ?_;(focus first|exact .inl rfl|exact .inr rfl|(refine .inr ?_;simp [qo,qm,qh,qg,SO.hasSl,List.all_map,qi,SV.cells,Function.comp_def];done)))|(refine zl ?_ rfl ?_;(focus first|rfl|(simp [qo,qm,qh,qg,SO.hasSl,List.all_map,qi,SV.cells,Function.comp_def];done))))))|((refine zk (KK hb (by omega) s (by omega) hsm hst) rfl rfl ?_);((rintro _ _ ⟨r,q',rfl,rfl,hrl,hrs,hq3,hq4,hrt,hrp⟩)<;>(first|(refine zF ?_ rfl ?_;(focus first|exact .inl rfl|exact .inr rfl|(refine .inr ?_;simp [qo,qm,qh,qg,SO.hasSl,List.all_map,qi,SV.cells,Function.comp_def];done)))|(refine zl ?_ rfl ?_;(focus first|rfl|(simp [qo,qm,qh,qg,SO.hasSl,List.all_map,qi,SV.cells,Function.comp_def];done))))))|((refine qk (yY _ r (by omega) (zK hrs) (kR hrp) (by first|rfl|(rw [kd];rfl))) rfl rfl ?_ rfl ?_);(focus first|exact .inl rfl|exact .inr rfl|(refine .inr ?_;simp [qo,qm,qh,qg,SO.hasSl,List.all_map,qi,SV.cells,Function.comp_def];done)))|((refine wT (yY _ r (by omega) (zK hrs) (kR hrp) (by first|rfl|(rw [kd];rfl))) rfl rfl ?_ rfl ?_);(·first|rfl|(simp [qo,qm,qh,qg,SO.hasSl,List.all_map,qi,SV.cells,Function.comp_def];done)))|((refine wT (ZF _ _ (ZJ (by omega) (zK hrs)) _ _ (by first|rfl|(rw [kd];rfl))) rfl rfl ?_ rfl ?_);(·first|rfl|(simp [qo,qm,qh,qg,SO.hasSl,List.all_map,qi,SV.cells,Function.comp_def];done)))|((refine qk (ZF _ _ (ZJ (by omega) (zK hrs)) _ _ (by first|rfl|(rw [kd];rfl))) rfl rfl ?_ rfl ?_);(focus first|exact .inl rfl|exact .inr rfl|(refine .inr ?_;simp [qo,qm,qh,qg,SO.hasSl,List.all_map,qi,SV.cells,Function.comp_def];done))))|((with_reducible refine eK ?_);first|(with_reducible first|refine qT ?_|refine qU ?_)|((with_reducible refine qr ?_ ?_)<;>intro h))|((with_reducible refine eO ?_);first|refine qe rfl ?_|(refine qB rfl ?_ ?_<;>intro h<;>try (exfalso;simp_all;done))|refine qb rfl ?_)|((with_reducible refine eD ?_);first|refine qe rfl ?_|refine qb rfl ?_)|((with_reducible refine zg ?_ ?_);· intro _;rfl)|refine qq rfl ?_)
  · with_reducible refine ZL (jM hb (by omega) _ (QF (QF jL (yn ?_ ?_)) (yn ?_ ?_)) ?_ r hrl ⟨hrs, hrp⟩ _ _ _ _ _ _) ?_
    · omega
    · with_reducible assumption
    · omega
    · with_reducible assumption
    · rw [kd, kd]; exact jb
    · intro x os h; exact h.mono (by omega) (by omega)
  · with_reducible refine ZL (jM hb (by omega) _ (QF (QF jL (yn ?_ ?_)) (yn ?_ ?_)) ?_ r hrl ⟨hrs, hrp⟩ _ _ _ _ _ _) ?_
    · omega
    · with_reducible assumption
    · omega
    · with_reducible assumption
    · rw [kd, kd]; exact jb
    · intro x os h; exact h.mono (by omega) (by omega)
  · with_reducible refine ZL (WA hb (by omega) _ (QF jL (yn ?_ ?_)) ?_ r hrl ⟨hrs, hrp⟩ _ _ _ _ _) ?_
    · omega
    · with_reducible assumption
    · rw [kd]; exact jb
    · intro x os h; exact h.mono (by omega) (by omega)
end Go.Proofs.Ytfjbclgbpdlkgaa

/- Drawn steps, and what the laws draw of disks. -/
namespace Go.Proofs.Ytfjbclgbpdlkgaa
open Go
set_option linter.unusedVariables false
set_option linter.unusedSimpArgs false
set_option maxHeartbeats 4000000
def QStep (b : List Int) (p : Int) : SV → List SO → Prop := fun x os => ∃ (t : TStep) (q : Int), x = zc t ∧ os = [rd b q] ∧ wd t ∧ p ≤ q ∧ q ≤ p + 10
theorem YN {b : List Int} (hb : RdOK b) {p : Int} (hp : 0 ≤ p ∧ p < 900000000) (s : List TPkg) (hs : s.length ≤ 9) (hsm : kh s) : Ev (fun n => qd prg n 54 [.ptr 0 0, .sl 4 (s.map zh)] [rd b p]) (QStep b p) := by
  (refine U54 (nl := 1) rfl ?_; unfold B54)
  repeat' (first|((with_reducible refine eB ?_);first|((with_reducible refine zr ?_ ?_)<;>intro h<;>try (exfalso;omega))|((with_reducible first|refine zi ?_ ?_|refine kG ?_ ?_);· omega)|refine qe rfl ?_|refine qb rfl ?_)|((with_reducible refine eC ?_);first|((refine z5 (kV hb (by omega) _ (by omega)) rfl rfl ?_ (fun _ => rfl) ?_);(·first|exact .inl rfl|exact .inr (fun _ => rfl));(first|(have q0 := z3;clear q0;intro z4 hz4)|(have q0 := z2;clear q0;intro z3 hz3)|(have q0 := z;clear q0;intro z2 hz2)|(intro z hz))))|((with_reducible refine eK ?_);first|(with_reducible first|refine qT ?_|refine qU ?_)|((with_reducible refine qr ?_ ?_)<;>intro h))|((with_reducible refine eO ?_);first|refine qe rfl ?_|(refine qB rfl ?_ ?_<;>intro h<;>try (exfalso;simp_all;done))|refine qb rfl ?_|(refine qF rfl ?_ rfl ?_;(focus omega))|(refine qt rfl ?_ rfl ?_ ?_;(focus omega);(all_goals intro h)))|((with_reducible refine eD ?_);first|refine qe rfl ?_|refine qb rfl ?_)|((with_reducible refine UJ54_9 ?_);(unfold qdT))|((with_reducible refine qj8 ?_);(unfold Xy))|refine qq rfl ?_)
  all_goals first
    | exact ⟨⟨_, _, _, s⟩, _, rfl, rfl, ⟨hs, hsm⟩, by omega, by omega⟩
    | exact ⟨⟨_, _, _, []⟩, _, rfl, rfl, ⟨Nat.zero_le _, ko⟩, by omega, by omega⟩
    | trace_state
def qft : SV → List SO → Prop := fun x os => ∃ (d : TDisk) (t : TStep), x = .tup [qR d, zc t] ∧ os = [] ∧ SDisk d ∧ d.files.length ≤ 6 ∧ wd t
theorem yq (l : List Int) (hl : ∀ i, 0 ≤ nth l i ∧ nth l i < 256) : Ev (fun m => qd prg m 22 [.sl 1 (l.map bI)] []) qft := by
  obtain ⟨b, hb, hopen⟩ := jD l hl
  (refine U22 (nl := 0) rfl ?_; unfold B22)
  repeat' (first|((with_reducible refine eC ?_);first|((refine qk (hopen ..) rfl rfl ?_ rfl ?_);(focus first|exact .inl rfl|exact .inr rfl|(refine .inr ?_;simp [qo,qm,qh,qg,SO.hasSl,List.all_map,qi,SV.cells,Function.comp_def];done)))|((refine zk (yL hb (by omega)) rfl rfl ?_);((rintro _ _ ⟨d,s,q,⟨rfl,rfl,hf⟩|⟨rfl,rfl,hf⟩,hd,hsl,⟨hss,hsp⟩,hq1,hq2⟩)<;>(first|(refine zF ?_ rfl ?_;(focus first|exact .inl rfl|exact .inr rfl|(refine .inr ?_;simp [qo,qm,qh,qg,SO.hasSl,List.all_map,qi,SV.cells,Function.comp_def];done)))|(refine zl ?_ rfl ?_;(focus first|rfl|(simp [qo,qm,qh,qg,SO.hasSl,List.all_map,qi,SV.cells,Function.comp_def];done))))))|((refine zk (YN hb (by omega) s (by omega) hss) rfl rfl ?_);((rintro _ _ ⟨t,q',rfl,rfl,hts,hq3,hq4⟩)<;>(first|(refine zF ?_ rfl ?_;(focus first|exact .inl rfl|exact .inr rfl|(refine .inr ?_;simp [qo,qm,qh,qg,SO.hasSl,List.all_map,qi,SV.cells,Function.comp_def];done)))|(refine zl ?_ rfl ?_;(focus first|rfl|(simp [qo,qm,qh,qg,SO.hasSl,List.all_map,qi,SV.cells,Function.comp_def];done)))))))|((with_reducible refine eO ?_);first|refine qe rfl ?_|(refine qB rfl ?_ ?_<;>intro h<;>try (exfalso;simp_all;done))|refine qb rfl ?_|(refine qF rfl ?_ rfl ?_;(focus omega))|(refine qt rfl ?_ rfl ?_ ?_;(focus omega);(all_goals intro h)))|((with_reducible refine eD ?_);first|refine qe rfl ?_|refine qb rfl ?_)|((with_reducible refine zg ?_ ?_);· intro _;rfl)|refine qq rfl ?_)
  all_goals first
    | exact ⟨d, t, rfl, rfl, hd, by omega, hts⟩
    | trace_state
theorem ZV (l : List Int) (hl : ∀ i, 0 ≤ nth l i ∧ nth l i < 256) : Ev (fun m => qd prg m 29 [.sl 1 (l.map bI)] []) qft := by
  (refine U29 (nl := 0) rfl ?_; unfold B29)
  repeat' (first|((with_reducible refine eC ?_);first|((refine zk (yq l hl) rfl rfl ?_);((rintro _ _ ⟨d,t,rfl,rfl,hd,hf,hts⟩)<;>(first|(refine zF ?_ rfl ?_;(focus first|exact .inl rfl|exact .inr rfl|(refine .inr ?_;simp [qo,qm,qh,qg,SO.hasSl,List.all_map,qi,SV.cells,Function.comp_def];done)))|(refine zl ?_ rfl ?_;(focus first|rfl|(simp [qo,qm,qh,qg,SO.hasSl,List.all_map,qi,SV.cells,Function.comp_def];done)))))))|((with_reducible refine eO ?_);first|refine qe rfl ?_|(refine qB rfl ?_ ?_<;>intro h<;>try (exfalso;simp_all;done))|refine qb rfl ?_|(refine qF rfl ?_ rfl ?_;(focus omega))|(refine qt rfl ?_ rfl ?_ ?_;(focus omega);(all_goals intro h)))|((with_reducible refine eD ?_);first|refine qe rfl ?_|refine qb rfl ?_)|refine qq rfl ?_)
  all_goals first
    | exact ⟨d, t, rfl, rfl, hd, hf, hts⟩
    | trace_state
def qfu : SV → List SO → Prop := fun x os => ∃ (d : TDisk), x = qR d ∧ os = [] ∧ SDisk d ∧ d.files.length ≤ 6
def ShD (b : List Int) (p : Int) (d : TDisk) (os : List SO) : Prop :=
  (os = [.box [.osl 3, .osl 4, bB false, .osl 5], rd b p, QE 6 d, .arr false 4 [], .arr false 1 [], .arr false 4 [], .arr false 1 (d.files.map iI)] ∧ d.files.length = 6) ∨
  (os = [.box [.osl 3, .osl 4, bB false, .osl 5], rd b p, .box [.sl 4 (d.db.map zh), .sl 1 (d.files.map iI), bB d.has, .sl 4 (d.jour.map zh)], .arr false 4 [], .arr false 1 [], .arr false 4 []] ∧ d.files.length = 5)
theorem shd_a {b : List Int} {p : Int} {d : TDisk} (hf : d.files.length = 6) : ShD b p d [.box [.osl 3, .osl 4, bB false, .osl 5], rd b p, QE 6 d, .arr false 4 [], .arr false 1 [], .arr false 4 [], .arr false 1 (d.files.map iI)] := .inl ⟨rfl, hf⟩
theorem shd_b {b : List Int} {p : Int} {d : TDisk} (hf : d.files.length = 5) : ShD b p d [.box [.osl 3, .osl 4, bB false, .osl 5], rd b p, .box [.sl 4 (d.db.map zh), .sl 1 (d.files.map iI), bB d.has, .sl 4 (d.jour.map zh)], .arr false 4 [], .arr false 1 [], .arr false 4 []] := .inr ⟨rfl, hf⟩
theorem yM {b : List Int} (hb : RdOK b) : ∀ i : Nat, i ≤ 4 → ∀ (p k : Int) (d : TDisk) (os : List SO) (c : Nat), k = i → ShD b p d os → SDisk d → 0 ≤ p → p ≤ 3000 + 3000 * i →
    Ev (fun n => qaZ (qd prg n) (n + 1) 0 (n + 1 - c) [.ptr 0 0, .ptr 1 0, .ptr 2 0, iI k] os) qfu := by
  refine zC ?_
  intro i hi ih p k d os c hk hsh hd h1 h2
  subst hk
  rcases hsh with ⟨rfl, hf⟩ | ⟨rfl, hf⟩
  all_goals (refine UG31_4 _ ?_; unfold qdG)
  all_goals repeat' (first|((with_reducible refine eG ?_);first|(with_reducible first|refine qX ?_|refine qY ?_|refine qZ ?_|refine q4 ?_|refine zm ?_)|refine qe rfl ?_|refine qb rfl ?_|((with_reducible refine zn ?_ ?_)<;>intro h))|((with_reducible refine eB ?_);first|((with_reducible first|refine zf ?_ ?_|refine ka ?_ ?_)<;>intro h<;>try (exfalso;omega))|((with_reducible refine zi ?_ ?_);· omega)|refine qe rfl ?_|refine qb rfl ?_)|((with_reducible refine eC ?_);first|((refine z5 (kV hb (by omega) _ (by omega)) rfl rfl ?_ (fun _ => rfl) ?_);(·first|exact .inl rfl|exact .inr (fun _ => rfl));(first|(have q0 := z3;clear q0;intro z4 hz4)|(have q0 := z2;clear q0;intro z3 hz3)|(have q0 := z;clear q0;intro z2 hz2)|(intro z hz)))|((refine zk (yL hb (by omega)) rfl rfl ?_);((rintro _ _ ⟨d',s,q,⟨rfl,rfl,hf'⟩|⟨rfl,rfl,hf'⟩,hd',hsl,⟨hss,hsp⟩,hq1,hq2⟩)<;>(first|(refine zF ?_ rfl ?_;(focus first|exact .inl rfl|exact .inr rfl|(refine .inr ?_;simp [qo,qm,qh,qg,SO.hasSl,List.all_map,qi,SV.cells,Function.comp_def];done)))|(refine zl ?_ rfl ?_;(focus first|rfl|(simp [qo,qm,qh,qg,SO.hasSl,List.all_map,qi,SV.cells,Function.comp_def];done)))))))|((with_reducible refine eK ?_);first|(with_reducible first|refine qT ?_|refine qU ?_)|((with_reducible refine qr ?_ ?_)<;>intro h))|((with_reducible refine eO ?_);first|refine qe rfl ?_|(refine qB rfl ?_ ?_<;>intro h<;>try (exfalso;simp_all;done))|refine qb rfl ?_|(refine qF rfl ?_ rfl ?_;(focus omega))|(refine qt rfl ?_ rfl ?_ ?_;(focus omega);(all_goals intro h)))|((with_reducible refine eD ?_);first|refine qe rfl ?_|refine qb rfl ?_|((with_reducible refine qC ?_ ?_)<;>intro h))|((with_reducible refine eH ?_);first|refine zA rfl ?_)|(with_reducible first|refine qet ?_|refine qik ?_)|((with_reducible refine ih ?_ _ _ d' _ _ ?_ (shd_a hf') hd' ?_ ?_)<;>(first|omega|assumption|(simp only [*,List.map_append,List.length_append,List.length_cons,List.length_nil,List.map_cons,List.map_nil];done)|(simp_all;done)|(simp_all;omega)))|((with_reducible refine ih ?_ _ _ d' _ _ ?_ (shd_b hf') hd' ?_ ?_)<;>(first|omega|assumption|(simp only [*,List.map_append,List.length_append,List.length_cons,List.length_nil,List.map_cons,List.map_nil];done)|(simp_all;done)|(simp_all;omega)))|refine qq rfl ?_)
  all_goals first
    | exact ⟨d, rfl, rfl, hd, by omega⟩
    | trace_state
theorem ya (l : List Int) (hl : ∀ i, 0 ≤ nth l i ∧ nth l i < 256) : Ev (fun m => qd prg m 31 [.sl 1 (l.map bI)] []) qfu := by
  obtain ⟨b, hb, hopen⟩ := jD l hl
  (refine U31 (nl := 0) rfl ?_; unfold B31)
  repeat' (first|((with_reducible refine eC ?_);first|((refine qk (hopen ..) rfl rfl ?_ rfl ?_);(focus first|exact .inl rfl|exact .inr rfl|(refine .inr ?_;simp [qo,qm,qh,qg,SO.hasSl,List.all_map,qi,SV.cells,Function.comp_def];done)))|((refine zk (yL hb (by omega)) rfl rfl ?_);((rintro _ _ ⟨d',s,q,⟨rfl,rfl,hf'⟩|⟨rfl,rfl,hf'⟩,hd',hsl,⟨hss,hsp⟩,hq1,hq2⟩)<;>(first|(refine zF ?_ rfl ?_;(focus first|exact .inl rfl|exact .inr rfl|(refine .inr ?_;simp [qo,qm,qh,qg,SO.hasSl,List.all_map,qi,SV.cells,Function.comp_def];done)))|(refine zl ?_ rfl ?_;(focus first|rfl|(simp [qo,qm,qh,qg,SO.hasSl,List.all_map,qi,SV.cells,Function.comp_def];done)))))))|((with_reducible refine eD ?_);first|refine qe rfl ?_|refine qb rfl ?_)|((with_reducible refine eH ?_);first|refine zA rfl ?_)|(with_reducible first|refine qet ?_|refine qik ?_)|((with_reducible refine yM hb 0 ?_ _ _ d' _ _ ?_ (shd_a hf') hd' ?_ ?_)<;>(first|omega|assumption|(simp only [*,List.map_append,List.length_append,List.length_cons,List.length_nil,List.map_cons,List.map_nil];done)|(simp_all;done)|(simp_all;omega)))|((with_reducible refine yM hb 0 ?_ _ _ d' _ _ ?_ (shd_b hf') hd' ?_ ?_)<;>(first|omega|assumption|(simp only [*,List.map_append,List.length_append,List.length_cons,List.length_nil,List.map_cons,List.map_nil];done)|(simp_all;done)|(simp_all;omega)))|refine qq rfl ?_)
end Go.Proofs.Ytfjbclgbpdlkgaa

/- What the laws draw of disks: true ones, steps, where one falls. -/
namespace Go.Proofs.Ytfjbclgbpdlkgaa
open Go
set_option linter.unusedVariables false
set_option linter.unusedSimpArgs false
set_option maxHeartbeats 4000000
theorem YO {d : TDisk} (hs : d.jour.length ≤ 2000000) (hp0 : PL d.jour) : StepsIn (za d) := by
  unfold za; split
  · have h := ZJ (d := d) hs hp0
    refine ⟨Nat.le_trans (yK d d.jour) (by decide), fun i hi => ?_⟩
    have e : nth (zE d d.jour) (i + 1) = nth (zY d d.jour) i := by unfold zE; simp [nth]
    rw [← e]
    exact h.2 (i + 1) (by unfold zE; rw [List.length_cons]; omega)
  · exact ⟨Nat.zero_le _, fun i hi => absurd hi (Nat.not_lt_zero _)⟩
theorem ZW (l : List Int) (hl : ∀ i, 0 ≤ nth l i ∧ nth l i < 256) : Ev (fun m => qd prg m 15 [.sl 1 (l.map bI)] []) qfu := by
  obtain ⟨b, hb, hopen⟩ := jD l hl
  (refine U15 (nl := 0) rfl ?_; unfold B15)
  repeat' (first|((with_reducible refine eG ?_);first|(with_reducible first|refine qX ?_|refine qY ?_|refine qZ ?_|refine q4 ?_|refine zm ?_)|refine qe rfl ?_|refine qb rfl ?_|((with_reducible refine zn ?_ ?_)<;>intro h))|((with_reducible refine eB ?_);first|((with_reducible refine zr ?_ ?_)<;>intro h<;>try (exfalso;omega))|refine qe rfl ?_|refine qb rfl ?_)|((with_reducible refine eC ?_);first|((refine qk (hopen ..) rfl rfl ?_ rfl ?_);(focus first|exact .inl rfl|exact .inr rfl|(refine .inr ?_;simp [qo,qm,qh,qg,SO.hasSl,List.all_map,qi,SV.cells,Function.comp_def];done)))|((refine zk (yL hb (by omega)) rfl rfl ?_);((rintro _ _ ⟨d,s,q,⟨rfl,rfl,hf⟩|⟨rfl,rfl,hf⟩,hd,hsl,⟨hss,hsp⟩,hq1,hq2⟩)<;>(first|(refine zF ?_ rfl ?_;(focus first|exact .inl rfl|exact .inr rfl|(refine .inr ?_;simp [qo,qm,qh,qg,SO.hasSl,List.all_map,qi,SV.cells,Function.comp_def];done)))|(refine zl ?_ rfl ?_;(focus first|rfl|(simp [qo,qm,qh,qg,SO.hasSl,List.all_map,qi,SV.cells,Function.comp_def];done))))))|((refine z5 (kV hb (by omega) _ (by omega)) rfl rfl ?_ (fun _ => rfl) ?_);(·first|exact .inl rfl|exact .inr (fun _ => rfl));(first|(have q0 := z3;clear q0;intro z4 hz4)|(have q0 := z2;clear q0;intro z3 hz3)|(have q0 := z;clear q0;intro z2 hz2)|(intro z hz)))|((refine zT (kN d (hd.len (by omega))) rfl rfl ?_ rfl rfl ?_ ?_);(focus first|exact .inl rfl|exact .inr rfl|(refine .inr ?_;simp [qo,qm,qh,qg,SO.hasSl,List.all_map,qi,SV.cells,Function.comp_def];done));(all_goals (intro h));(all_goals (try (exfalso;simp_all;done))))|((refine qk (ZB d (Nat.le_trans hd.jl (by decide)) (zK hd.js) (kR (zI.1 (by assumption)).2.2.2.1) hf) rfl rfl ?_ rfl ?_);(focus first|exact .inl rfl|exact .inr rfl|(refine .inr ?_;simp [qo,qm,qh,qg,SO.hasSl,List.all_map,qi,SV.cells,Function.comp_def];done)))|((refine qk (ZF d (za d) (YO (Nat.le_trans hd.jl (by decide)) (zK hd.js)) 20 false hf) rfl rfl ?_ rfl ?_);(focus first|exact .inl rfl|exact .inr rfl|(refine .inr ?_;simp [qo,qm,qh,qg,SO.hasSl,List.all_map,qi,SV.cells,Function.comp_def];done))))|((with_reducible refine eK ?_);first|(with_reducible first|refine qT ?_|refine qU ?_)|((with_reducible refine qr ?_ ?_)<;>intro h))|((with_reducible refine eO ?_);first|refine qe rfl ?_|(refine qB rfl ?_ ?_<;>intro h<;>try (exfalso;simp_all;done))|refine qb rfl ?_|(refine qF rfl ?_ rfl ?_;(focus omega))|(refine qt rfl ?_ rfl ?_ ?_;(focus omega);(all_goals intro h)))|((with_reducible refine eD ?_);first|refine qe rfl ?_|refine qb rfl ?_|((with_reducible refine qC ?_ ?_)<;>intro h))|((with_reducible refine zg ?_ ?_);· intro _;rfl)|((with_reducible refine UJ15_5 ?_);(unfold qdA))|refine qq rfl ?_)
  all_goals first
    | (exfalso; have := zD (by assumption : q7 d = true); omega)
    | exact ⟨d, rfl, rfl, hd, by omega⟩
    | exact ⟨toP d (za d) 20 false, rfl, rfl, QF hd (yp hd), by rw [kd]; omega⟩
    | trace_state
def qlo : SV → List SO → Prop := fun x os => ∃ (d : TDisk) (s : List TPkg), x = .tup [qR d, .sl 4 (s.map zh)] ∧ os = [] ∧ SDisk d ∧ d.files.length ≤ 6 ∧ s.length ≤ 9 ∧ kh s
theorem xw (l : List Int) (hl : ∀ i, 0 ≤ nth l i ∧ nth l i < 256) : Ev (fun m => qd prg m 37 [.sl 1 (l.map bI)] []) qlo := by
  obtain ⟨b, hb, hopen⟩ := jD l hl
  (refine U37 (nl := 0) rfl ?_; unfold B37)
  repeat' (first|((with_reducible refine eG ?_);first|(with_reducible first|refine qX ?_|refine qY ?_|refine qZ ?_|refine q4 ?_|refine zm ?_)|refine qe rfl ?_|refine qb rfl ?_|((with_reducible refine zn ?_ ?_)<;>intro h))|((with_reducible refine eB ?_);first|((with_reducible first|refine ka ?_ ?_|refine zr ?_ ?_)<;>intro h<;>try (exfalso;omega))|refine qe rfl ?_|refine qb rfl ?_)|((with_reducible refine eC ?_);first|((refine qk (hopen ..) rfl rfl ?_ rfl ?_);(focus first|exact .inl rfl|exact .inr rfl|(refine .inr ?_;simp [qo,qm,qh,qg,SO.hasSl,List.all_map,qi,SV.cells,Function.comp_def];done)))|((refine zk (yL hb (by omega)) rfl rfl ?_);((rintro _ _ ⟨d,s,q,⟨rfl,rfl,hf⟩|⟨rfl,rfl,hf⟩,hd,hsl,⟨hss,hsp⟩,hq1,hq2⟩)<;>(first|(refine zF ?_ rfl ?_;(focus first|exact .inl rfl|exact .inr rfl|(refine .inr ?_;simp [qo,qm,qh,qg,SO.hasSl,List.all_map,qi,SV.cells,Function.comp_def];done)))|(refine zl ?_ rfl ?_;(focus first|rfl|(simp [qo,qm,qh,qg,SO.hasSl,List.all_map,qi,SV.cells,Function.comp_def];done))))))|((refine z5 (kV hb (by omega) _ (by omega)) rfl rfl ?_ (fun _ => rfl) ?_);(·first|exact .inl rfl|exact .inr (fun _ => rfl));(first|(have q0 := z3;clear q0;intro z4 hz4)|(have q0 := z2;clear q0;intro z3 hz3)|(have q0 := z;clear q0;intro z2 hz2)|(intro z hz)))|((refine zT (kN d (hd.len (by omega))) rfl rfl ?_ rfl rfl ?_ ?_);(focus first|exact .inl rfl|exact .inr rfl|(refine .inr ?_;simp [qo,qm,qh,qg,SO.hasSl,List.all_map,qi,SV.cells,Function.comp_def];done));(all_goals (intro h));(all_goals (try (exfalso;simp_all;done))))|((refine qk (ZB d (Nat.le_trans hd.jl (by decide)) (zK hd.js) (kR (zI.1 (by assumption)).2.2.2.1) hf) rfl rfl ?_ rfl ?_);(focus first|exact .inl rfl|exact .inr rfl|(refine .inr ?_;simp [qo,qm,qh,qg,SO.hasSl,List.all_map,qi,SV.cells,Function.comp_def];done)))|((refine qk (ZF d (za d) (YO (Nat.le_trans hd.jl (by decide)) (zK hd.js)) 20 false hf) rfl rfl ?_ rfl ?_);(focus first|exact .inl rfl|exact .inr rfl|(refine .inr ?_;simp [qo,qm,qh,qg,SO.hasSl,List.all_map,qi,SV.cells,Function.comp_def];done)))|((refine zk (Zt hb (by omega)) rfl rfl ?_);((rintro _ _ ⟨s2,q2,rfl,rfl,hs2,hsm2,hq3,hq4,hst2⟩)<;>(first|(refine zF ?_ rfl ?_;(focus first|exact .inl rfl|exact .inr rfl|(refine .inr ?_;simp [qo,qm,qh,qg,SO.hasSl,List.all_map,qi,SV.cells,Function.comp_def];done)))|(refine zl ?_ rfl ?_;(focus first|rfl|(simp [qo,qm,qh,qg,SO.hasSl,List.all_map,qi,SV.cells,Function.comp_def];done))))))|((refine zk (KK hb (by omega) s2 (by omega) hsm2 hst2) rfl rfl ?_);((rintro _ _ ⟨r,q',rfl,rfl,hrl,hrs,hq5,hq6,hrt,hrp⟩)<;>(first|(refine zF ?_ rfl ?_;(focus first|exact .inl rfl|exact .inr rfl|(refine .inr ?_;simp [qo,qm,qh,qg,SO.hasSl,List.all_map,qi,SV.cells,Function.comp_def];done)))|(refine zl ?_ rfl ?_;(focus first|rfl|(simp [qo,qm,qh,qg,SO.hasSl,List.all_map,qi,SV.cells,Function.comp_def];done)))))))|((with_reducible refine eK ?_);first|(with_reducible first|refine qT ?_|refine qU ?_)|((with_reducible refine qr ?_ ?_)<;>intro h))|((with_reducible refine eO ?_);first|refine qe rfl ?_|(refine qB rfl ?_ ?_<;>intro h<;>try (exfalso;simp_all;done))|refine qb rfl ?_|(refine qF rfl ?_ rfl ?_;(focus omega))|(refine qt rfl ?_ rfl ?_ ?_;(focus omega);(all_goals intro h)))|((with_reducible refine eD ?_);first|refine qe rfl ?_|refine qb rfl ?_|((with_reducible refine qC ?_ ?_)<;>intro h))|((with_reducible refine zg ?_ ?_);· intro _;rfl)|((with_reducible refine UJ37_5 ?_);(unfold qdK))|((with_reducible refine UJ37_7 ?_);(unfold qdL))|refine qq rfl ?_)
  all_goals first
    | (exfalso; have := zD (by assumption : q7 d = true); omega)
    | exact ⟨d, s, rfl, rfl, hd, by omega, by omega, hss⟩
    | exact ⟨d, r, rfl, rfl, hd, by omega, by omega, hrs⟩
    | exact ⟨toP d (za d) 20 false, s, rfl, rfl, QF hd (yp hd), by rw [kd]; omega, by omega, hss⟩
    | exact ⟨toP d (za d) 20 false, r, rfl, rfl, QF hd (yp hd), by rw [kd]; omega, by omega, hrs⟩
    | trace_state
theorem qfv (L : List TStep) (t : TStep) : L.map zc ++ [.ag [iI t.kind, iI t.path, iI t.data, .sl 4 (t.pkgs.map zh)]] = (L ++ [t]).map zc := by simp
def qlp : SV → List SO → Prop := fun x os => ∃ (d : TDisk) (l : List TStep) (cut : Int) (torn : Bool), x = .tup [qR d, .sl 4 (l.map zc), iI cut, bB torn] ∧ os = [] ∧ SDisk d ∧ d.files.length ≤ 6 ∧ l.length ≤ 10 ∧ (∀ t, t ∈ l → wd t) ∧ -100 ≤ cut ∧ cut ≤ 100
theorem QC (l : List Int) (hl : ∀ i, 0 ≤ nth l i ∧ nth l i < 256) : Ev (fun m => qd prg m 34 [.sl 1 (l.map bI)] []) qlp := by
  obtain ⟨b, hb, hopen⟩ := jD l hl
  (refine U34 (nl := 0) rfl ?_; unfold B34)
  repeat' (first|(rw [qfv])|((with_reducible refine eB ?_);first|((with_reducible refine zr ?_ ?_)<;>intro h<;>try (exfalso;omega))|((with_reducible first|refine zi ?_ ?_|refine kG ?_ ?_|refine JO ?_ ?_);· omega)|((with_reducible refine W8 ?_ ?_ ?_);(·omega);(·omega);intro x hx hx0 hx1)|refine qe rfl ?_|refine qb rfl ?_)|((with_reducible refine eL ?_);first|((with_reducible refine qI ?_ ?_);· rfl)|refine qy rfl rfl ?_|refine qG rfl rfl ?_|refine qz rfl rfl rfl ?_|refine qJ rfl rfl ?_|refine qH rfl rfl ?_|refine qK rfl ?_|refine qe rfl ?_|refine qb rfl ?_)|((with_reducible refine eC ?_);first|((refine qk (hopen ..) rfl rfl ?_ rfl ?_);(focus first|exact .inl rfl|exact .inr rfl|(refine .inr ?_;simp [qo,qm,qh,qg,SO.hasSl,List.all_map,qi,SV.cells,Function.comp_def];done)))|((refine zk (yL hb (by omega)) rfl rfl ?_);((rintro _ _ ⟨d,s,q,⟨rfl,rfl,hf⟩|⟨rfl,rfl,hf⟩,hd,hsl,⟨hss,hsp⟩,hq1,hq2⟩)<;>((have hpl := wW d s))<;>(first|(refine zF ?_ rfl ?_;(focus first|exact .inl rfl|exact .inr rfl|(refine .inr ?_;simp [qo,qm,qh,qg,SO.hasSl,List.all_map,qi,SV.cells,Function.comp_def];done)))|(refine zl ?_ rfl ?_;(focus first|rfl|(simp [qo,qm,qh,qg,SO.hasSl,List.all_map,qi,SV.cells,Function.comp_def];done))))))|((refine zT (kN d (hd.len (by omega))) rfl rfl ?_ rfl rfl ?_ ?_);(focus first|exact .inl rfl|exact .inr rfl|(refine .inr ?_;simp [qo,qm,qh,qg,SO.hasSl,List.all_map,qi,SV.cells,Function.comp_def];done));(all_goals (intro h));(all_goals (try (exfalso;simp_all;done))))|((refine qk (yY d s (by omega) (zK hss) (kR hsp) hf) rfl rfl ?_ rfl ?_);(focus first|exact .inl rfl|exact .inr rfl|(refine .inr ?_;simp [qo,qm,qh,qg,SO.hasSl,List.all_map,qi,SV.cells,Function.comp_def];done)))|((refine z5 (kV hb (by omega) _ (by omega)) rfl rfl ?_ (fun _ => rfl) ?_);(·first|exact .inl rfl|exact .inr (fun _ => rfl));(first|(have q0 := z3;clear q0;intro z4 hz4)|(have q0 := z2;clear q0;intro z3 hz3)|(have q0 := z;clear q0;intro z2 hz2)|(intro z hz)))|((refine zk (YN hb (by omega) s (by omega) hss) rfl rfl ?_);((rintro _ _ ⟨t,q',rfl,rfl,hts,hq3,hq4⟩)<;>((have hpl2 : (zE d s ++ [t]).length ≤ 10 := by rw [List.length_append];exact Nat.add_le_add hpl (Nat.le_refl 1)))<;>(first|(refine zF ?_ rfl ?_;(focus first|exact .inl rfl|exact .inr rfl|(refine .inr ?_;simp [qo,qm,qh,qg,SO.hasSl,List.all_map,qi,SV.cells,Function.comp_def];done)))|(refine zl ?_ rfl ?_;(focus first|rfl|(simp [qo,qm,qh,qg,SO.hasSl,List.all_map,qi,SV.cells,Function.comp_def];done)))))))|((with_reducible refine eA ?_);first|(refine kU rfl rfl rfl rfl rfl ?_ ?_;· first|decide|(simp only [List.length_append,List.length_cons,List.length_nil,List.length_map,List.length_take,List.length_drop];omega)))|((with_reducible refine eK ?_);first|(with_reducible first|refine qT ?_|refine qU ?_)|((with_reducible refine qr ?_ ?_)<;>intro h))|((with_reducible refine eO ?_);first|refine qe rfl ?_|(refine qB rfl ?_ ?_<;>intro h<;>try (exfalso;simp_all;done))|refine qb rfl ?_|(refine qF rfl ?_ rfl ?_;(focus omega))|(refine qt rfl ?_ rfl ?_ ?_;(focus omega);(all_goals intro h))|(refine zP rfl rfl rfl ?_ ?_ ?_;(·simp);(·first|omega|(simp only [List.length_cons,List.length_nil,List.length_map,List.length_append];omega));intro w))|((with_reducible refine eD ?_);first|refine qe rfl ?_|refine qb rfl ?_)|((with_reducible refine zg ?_ ?_);· intro _;rfl)|((with_reducible refine UJ34_6 ?_);(unfold qdH))|((with_reducible refine UJ34_8 ?_);(unfold qdI))|refine qq rfl ?_)
  all_goals first
    | (exfalso; have := zD (by assumption : q7 d = true); omega)
    | exact ⟨d, [], _, _, rfl, rfl, hd, by omega, Nat.zero_le _, fun t ht => absurd ht (by simp), by omega, by omega⟩
    | exact ⟨d, [t], _, _, rfl, rfl, hd, by omega, Nat.succ_le_succ (Nat.zero_le 9), fun t' ht => by obtain rfl := List.mem_singleton.1 ht; exact hts, by omega, by omega⟩
    | exact ⟨d, zE d s, _, _, rfl, rfl, hd, by omega, by omega, yn (by omega) hss, by omega, by omega⟩
    | exact ⟨d, zE d s ++ [t], _, _, rfl, rfl, hd, by omega, by omega, fun t' ht => by rcases List.mem_append.1 ht with h9 | h9; exact yn (by omega) hss t' h9; obtain rfl := List.mem_singleton.1 h9; exact hts, by omega, by omega⟩
    | trace_state
end Go.Proofs.Ytfjbclgbpdlkgaa

/- What holds of what is at each place. -/
namespace Go.Proofs.Ytfjbclgbpdlkgaa
open Go
set_option linter.unusedVariables false
set_option linter.unusedSimpArgs false
structure FOk (F : List TFile) : Prop where
  rng : ∀ f, f ∈ F → (0 ≤ f.path ∧ f.path ≤ 5) ∧ 0 ≤ f.data
  one : F.Pairwise fun f g => f.path ≠ g.path
theorem FOk.tail {f : TFile} {F : List TFile} (h : FOk (f :: F)) : FOk F := ⟨fun g hg => h.rng g (List.mem_cons_of_mem _ hg), (List.pairwise_cons.1 h.one).2⟩
theorem KL {F : List TFile} : ∀ {w : List Int} {x : Nat}, FOk F → (∀ f, f ∈ F → f.path ≠ x) → nth (KF w F) x = nth w x := by
  induction F with
  | nil => intro w x _ _; rfl
  | cons f F ih =>
    intro w x h hx
    have h1 := ih (w := w.set f.path.toNat f.data) (x := x) h.tail fun g hg => hx g (List.mem_cons_of_mem _ hg)
    show nth (KF (w.set f.path.toNat f.data) F) x = _
    rw [h1, kL, if_neg]
    intro hh
    have := hx f (by simp)
    have := (h.rng f (by simp)).1
    omega
theorem qfw {F : List TFile} : ∀ {w : List Int} {f : TFile}, w.length = 6 → FOk F → f ∈ F → nth (KF w F) f.path.toNat = f.data := by
  induction F with
  | nil => intro w f _ _ h; cases h
  | cons g F ih =>
    intro w f hw h hf
    show nth (KF (w.set g.path.toNat g.data) F) f.path.toNat = _
    rcases List.mem_cons.1 hf with rfl | hf
    · have hr := (h.rng f (by simp)).1
      rw [KL h.tail, kL, if_pos ⟨rfl, by omega⟩]
      intro g hg e
      have := (List.pairwise_cons.1 h.one).1 g hg
      omega
    · exact ih (by rw [List.length_set]; exact hw) h.tail hf
def cntN (w : List Int) : Nat := (w.filter fun x => decide (x = -1)).length
theorem ZM (s : List TPkg) : zj s = KF YE (s.flatMap (·.files)) := by
  unfold zj KF
  rw [List.foldl_flatMap]
theorem QS {s : List TPkg} {f : TFile} : f ∈ s.flatMap (·.files) ↔ ∃ p, p ∈ s ∧ f ∈ p.files := by simp [List.mem_flatMap]
theorem qfx {p : TPkg} (h : w4 p = true) : p.files.Pairwise fun f g => f.path ≠ g.path :=
  YD.2 fun i j hij hj => by have := KE h j i hij hj; omega
theorem qao {s : List TPkg} (h : zo s = true) : FOk (s.flatMap (·.files)) := by
  obtain ⟨h1, h2, h3, h4⟩ := qak.1 h
  constructor
  · intro f hf
    obtain ⟨p, hp, hfp⟩ := QS.1 hf
    obtain ⟨j, hj, rfl⟩ := kK hfp
    have := (xn (h1 p hp)).2 j hj
    unfold yi at this; omega
  · clear h2 h3 h
    induction s with
    | nil => simp
    | cons p s ih =>
      obtain ⟨a1, a2⟩ := List.pairwise_cons.1 h4
      rw [List.flatMap_cons, List.pairwise_append]
      refine ⟨qfx (h1 p (by simp)), ih (fun q hq => h1 q (List.mem_cons_of_mem _ hq)) a2, fun f hf g hg => ?_⟩
      obtain ⟨q, hq, hgq⟩ := QS.1 hg
      exact fun e => a1 q hq f hf g hgq e.symm
theorem qfy {x : Nat} (h : x < 6) : nth YE x = -1 := by
  obtain rfl | rfl | rfl | rfl | rfl | rfl : x = 0 ∨ x = 1 ∨ x = 2 ∨ x = 3 ∨ x = 4 ∨ x = 5 := by omega
  all_goals rfl
theorem qhC {s : List TPkg} (h : zo s = true) {p : TPkg} (hp : p ∈ s) {f : TFile} (hf : f ∈ p.files) : nth (zj s) f.path.toNat = f.data := by
  rw [ZM]
  exact qfw rfl (qao h) (QS.2 ⟨p, hp, hf⟩)
theorem qcd {s : List TPkg} (h : zo s = true) {x : Nat} (hx : x < 6) (hn : ∀ p, p ∈ s → ∀ f, f ∈ p.files → f.path ≠ x) : nth (zj s) x = -1 := by
  rw [ZM, KL (qao h), qfy hx]
  intro f hf
  obtain ⟨p, hp, hfp⟩ := QS.1 hf
  exact hn p hp f hfp
theorem qce {s : List TPkg} (h : zo s = true) {x : Nat} (hx : x < 6) : (∃ p, p ∈ s ∧ ∃ f, f ∈ p.files ∧ f.path = x ∧ nth (zj s) x = f.data) ∨ ((∀ p, p ∈ s → ∀ f, f ∈ p.files → f.path ≠ x) ∧ nth (zj s) x = -1) := by
  by_cases e : ∃ p, p ∈ s ∧ ∃ f, f ∈ p.files ∧ f.path = x
  · obtain ⟨p, hp, f, hf, e⟩ := e
    refine .inl ⟨p, hp, f, hf, e, ?_⟩
    have := qhC h hp hf
    rw [e] at this; simpa using this
  · have hn : ∀ p, p ∈ s → ∀ f, f ∈ p.files → f.path ≠ x := fun p hp f hf e2 => e ⟨p, hp, f, hf, e2⟩
    exact .inr ⟨hn, qcd h hx hn⟩
end Go.Proofs.Ytfjbclgbpdlkgaa

/- Disks: the plain laws. -/
namespace Go.Proofs.Ytfjbclgbpdlkgaa
open Go
set_option linter.unusedVariables false
set_option linter.unusedSimpArgs false
theorem TDisk.ext' {a b : TDisk} (h1 : a.db = b.db) (h2 : a.files = b.files) (h3 : a.has = b.has) (h4 : a.jour = b.jour) : a = b := by
  obtain ⟨a1, a2, a3, a4⟩ := a; obtain ⟨b1, b2, b3, b4⟩ := b
  dsimp only at *; subst h1 h2 h3 h4; rfl
theorem qap {a b : List Int} (h : a.length = b.length) (h2 : ∀ i, i < a.length → nth a i = nth b i) : a = b := by
  refine List.ext_getElem h fun i h3 h4 => ?_
  have := h2 i h3
  simpa [nth, List.getD_eq_getElem?_getD, h3, h4] using this
theorem jc {l : List Int} : wO l = true ↔ ∀ i, i < l.length → xP l i := by unfold wO; exact decide_eq_true_iff
theorem ZN {l : List Int} (h : wO l = true) (i : Nat) (v : Int) (hv : -2 ≤ v ∧ v ≤ 9) : wO (l.set i v) = true := by
  refine jc.2 fun j hj => ?_
  have hj' : j < l.length := by simpa using hj
  have := jc.1 h j hj'
  unfold xP at *
  rw [kL]
  split <;> omega
theorem KM {s : List TPkg} (h : zo s = true) {i : Nat} (hi : i < 6) : -1 ≤ nth (zj s) i ∧ nth (zj s) i ≤ 9 := by
  rcases qce h hi with ⟨p, hp, f, hf, -, e⟩ | ⟨-, e⟩
  · obtain ⟨h1, -⟩ := qak.1 h
    obtain ⟨j, hj, rfl⟩ := kK hf
    have := (xn (h1 p hp)).2 j hj
    unfold yi at this; omega
  · omega
theorem wX {t : TStep} : zO t = true ↔ yj t := by unfold zO; exact decide_eq_true_iff
theorem QG {t : TStep} (h : zO t = true) : t.kind = 1 ∧ zo t.pkgs = true ∨ t.kind = 2 ∧ (0 ≤ t.path ∧ t.path ≤ 5) ∧ (-1 ≤ t.data ∧ t.data ≤ 9) ∨ t.kind = 3 ∧ zo t.pkgs = true ∨ t.kind = 4 := by
  rcases wX.1 h with ⟨h1 | h1, -, -, h2⟩ | ⟨h1, h2, h3, -⟩ | ⟨h1, -⟩
  · exact .inl ⟨h1, h2⟩
  · exact .inr (.inr (.inl ⟨h1, h2⟩))
  · exact .inr (.inl ⟨h1, h2, h3⟩)
  · exact .inr (.inr (.inr h1))
theorem doP1 {d : TDisk} {t : TStep} (h : t.kind = 1) : doP d t = { d with has := true, jour := t.pkgs } := by unfold doP; rw [if_pos h]
theorem Jl {d : TDisk} {t : TStep} (h : t.kind = 2) : doP d t = { d with files := d.files.set t.path.toNat t.data } := by unfold doP; rw [if_neg (by omega), if_pos h]
theorem qfT {d : TDisk} {t : TStep} (h : t.kind = 3) : doP d t = { d with db := t.pkgs } := by unfold doP; rw [if_neg (by omega), if_neg (by omega), if_pos h]
theorem doP4 {d : TDisk} {t : TStep} (h : t.kind = 4) : doP d t = { d with has := false, jour := [] } := by unfold doP; rw [if_neg (by omega), if_neg (by omega), if_neg (by omega), if_pos h]
theorem qaq {d : TDisk} {t : TStep} (h : t.kind = 2) : kB d t = { d with files := d.files.set t.path.toNat (-2) } := by unfold kB; rw [if_pos h]
theorem qar {d : TDisk} {t : TStep} (h : t.kind = 3) : kB d t = { d with db := [] } := by unfold kB; rw [if_neg (by omega), if_pos h]
theorem YP {d : TDisk} {t : TStep} (h : t.kind ≠ 2) (h2 : t.kind ≠ 3) : kB d t = d := by unfold kB; rw [if_neg h, if_neg h2]
theorem qfz {d : TDisk} {t : TStep} (hd : q7 d = true) (ht : zO t = true) : q7 (doP d t) = true := by
  obtain ⟨h1, h2, h3, h4, h5⟩ := zI.1 hd
  rcases QG ht with ⟨k, hp⟩ | ⟨k, hp, hq⟩ | ⟨k, hp⟩ | k
  · rw [doP1 k]; exact zI.2 ⟨h1, h2, h3, hp, .inl rfl⟩
  · rw [Jl k]; exact zI.2 ⟨ZN h1 _ _ (by omega), by dsimp only; rw [List.length_set]; exact h2, h3, h4, h5⟩
  · rw [qfT k]; exact zI.2 ⟨h1, h2, hp, h4, h5⟩
  · rw [doP4 k]; exact zI.2 ⟨h1, h2, h3, rfl, .inr rfl⟩
theorem qas {d : TDisk} {t : TStep} (hd : q7 d = true) : q7 (kB d t) = true := by
  obtain ⟨h1, h2, h3, h4, h5⟩ := zI.1 hd
  by_cases k : t.kind = 2
  · rw [qaq k]; exact zI.2 ⟨ZN h1 _ _ (by decide), by dsimp only; rw [List.length_set]; exact h2, h3, h4, h5⟩
  · by_cases k3 : t.kind = 3
    · rw [qar k3]; exact zI.2 ⟨h1, h2, rfl, h4, h5⟩
    · rw [YP k k3]; exact hd
theorem qfA {d : TDisk} {t : TStep} (ht : zO t = true) : doP (doP d t) t = doP d t := by
  rcases QG ht with ⟨k, hp⟩ | ⟨k, hp, hq⟩ | ⟨k, hp⟩ | k
  · rw [doP1 k, doP1 k]
  · rw [Jl k, Jl k]; dsimp only; rw [List.set_set]
  · rw [qfT k, qfT k]
  · rw [doP4 k, doP4 k]
theorem qhD {d : TDisk} {t : TStep} (ht : zO t = true) : doP (kB d t) t = doP d t := by
  rcases QG ht with ⟨k, hp⟩ | ⟨k, hp, hq⟩ | ⟨k, hp⟩ | k
  · rw [YP (by omega) (by omega)]
  · rw [qaq k, Jl k, Jl k]; dsimp only; rw [List.set_set]
  · rw [qar k, qfT k, qfT k]
  · rw [YP (by omega) (by omega)]
theorem kl {l : List TStep} : z9 l = true ↔ ∀ t, t ∈ l → zO t = true := by
  unfold z9
  rw [decide_eq_true_iff]
  constructor
  · intro h t ht
    obtain ⟨i, hi, rfl⟩ := List.mem_iff_getElem.1 ht
    have := h i hi
    simpa [nth, List.getD_eq_getElem?_getD, hi] using this
  · exact fun h i hi => h _ (zX hi)
theorem qlq {l : List TStep} : ∀ {d : TDisk}, q7 d = true → (∀ t, t ∈ l → zO t = true) → q7 (l.foldl doP d) = true := by
  induction l with
  | nil => intro d hd _; exact hd
  | cons t l ih => intro d hd hl; exact ih (qfz hd (hl t (List.mem_cons_self ..))) fun x hx => hl x (List.mem_cons_of_mem _ hx)
theorem WB {d : TDisk} {l : List TStep} (hd : q7 d = true) (hl : z9 l = true) (i : Nat) : q7 (Qf d l i) = true :=
  qlq hd fun t ht => kl.1 hl t (List.mem_of_mem_take ht)
theorem qiH {d : TDisk} {l : List TStep} (hd : q7 d = true) (hl : z9 l = true) (cut : Int) (torn : Bool) : q7 (toP d l cut torn) = true := by
  unfold toP; split
  · exact qas (WB hd hl _)
  · exact WB hd hl _
theorem jN {d : TDisk} {l : List TStep} (hd : q7 d = true) (hl : z9 l = true) {cut : Int} (hc : 0 ≤ cut) (torn : Bool) : yl d l cut torn = (toP d l cut torn, true) := by
  unfold yl; rw [if_pos ⟨hd, hc, hl⟩]
theorem qfB {d : TDisk} {s : List TPkg} (hs : zo s = true) : z9 (zY d s) = true := by
  refine kl.2 fun t ht => ?_
  unfold zY zG at ht
  rcases List.mem_append.1 ht with h | h
  · obtain ⟨j, hj, rfl⟩ := List.mem_map.1 h
    have hj := List.mem_range.1 (List.mem_filter.1 hj).1
    exact wX.2 (.inr (.inl ⟨rfl, by dsimp only; omega, KM hs hj, rfl⟩))
  · rcases List.mem_cons.1 h with rfl | h
    · exact wX.2 (.inl ⟨.inr rfl, rfl, rfl, hs⟩)
    · obtain rfl := List.mem_singleton.1 h
      exact wX.2 (.inr (.inr ⟨rfl, rfl, rfl, rfl⟩))
theorem qhE {d : TDisk} {s : List TPkg} (hs : zo s = true) : z9 (zE d s) = true := by
  refine kl.2 fun t ht => ?_
  rcases List.mem_cons.1 ht with rfl | h
  · exact wX.2 (.inl ⟨.inl rfl, rfl, rfl, hs⟩)
  · exact kl.1 (qfB hs) t h
theorem xD {d : TDisk} (hd : q7 d = true) : z9 (za d) = true := by
  unfold za; split
  · exact qfB (zI.1 hd).2.2.2.1
  · exact kl.2 fun t ht => by cases ht
theorem kS {d : TDisk} (hd : q7 d = true) : zp d = za d ∧ z9 (zp d) = true := by
  unfold zp; rw [if_pos hd]; exact ⟨rfl, xD hd⟩
theorem qfC (w : List Int) (d : TDisk) (hf : d.files.length = 6) : ∀ k, k ≤ 6 → ((zG w d.files k).foldl doP d).db = d.db ∧ ((zG w d.files k).foldl doP d).has = d.has ∧ ((zG w d.files k).foldl doP d).jour = d.jour ∧ ((zG w d.files k).foldl doP d).files.length = 6 ∧ ∀ j, nth ((zG w d.files k).foldl doP d).files j = if j < k then nth w j else nth d.files j := by
  intro k
  induction k with
  | zero => intro _; exact ⟨rfl, rfl, rfl, hf, fun j => by rw [if_neg (by omega)]; rfl⟩
  | succ k ih =>
    intro hk
    obtain ⟨a1, a2, a3, a4, a5⟩ := ih (by omega)
    by_cases e : nth w k = nth d.files k
    · rw [xr e]
      refine ⟨a1, a2, a3, a4, fun j => ?_⟩
      rw [a5 j]
      by_cases h1 : j < k
      · rw [if_pos h1, if_pos (by omega)]
      · by_cases h2 : j < k + 1
        · obtain rfl : j = k := by omega
          rw [if_neg h1, if_pos h2, e]
        · rw [if_neg h1, if_neg h2]
    · rw [wV e, List.foldl_append]
      simp only [List.foldl_cons, List.foldl_nil]
      rw [Jl rfl]
      refine ⟨a1, a2, a3, by dsimp only; rw [List.length_set]; exact a4, fun j => ?_⟩
      dsimp only
      rw [kL, a5 j]
      simp only [Int.toNat_natCast]
      by_cases h1 : k = j
      · subst h1; rw [if_pos ⟨rfl, by omega⟩, if_pos (by omega)]
      · rw [if_neg (fun h => h1 h.1)]
        by_cases h2 : j < k
        · rw [if_pos h2, if_pos (by omega)]
        · rw [if_neg h2, if_neg (by omega)]
def yb (s : List TPkg) : TDisk := ⟨s, zj s, false, []⟩
theorem jO {d : TDisk} {s : List TPkg} (hf : d.files.length = 6) : (zY d s).foldl doP d = yb s := by
  unfold zY
  rw [List.foldl_append]
  obtain ⟨a1, a2, a3, a4, a5⟩ := qfC (zj s) d hf 6 (Nat.le_refl _)
  generalize (zG (zj s) d.files 6).foldl doP d = x at *
  simp only [List.foldl_cons, List.foldl_nil]
  rw [doP4 (t := ⟨4, 0, 0, []⟩) rfl, qfT (t := ⟨3, 0, 0, s⟩) rfl]
  refine TDisk.ext' rfl ?_ rfl rfl
  refine qap (by rw [a4]; exact (kv s).symm) fun i hi => ?_
  have hi : i < x.files.length := hi
  have := a5 i
  rw [if_pos (by omega)] at this
  exact this
theorem qcf {d : TDisk} {s : List TPkg} (hf : d.files.length = 6) : (zE d s).foldl doP d = yb s := by
  unfold zE
  rw [List.foldl_cons, doP1 rfl]
  have := jO (d := { d with has := true, jour := s }) (s := s) hf
  exact this
theorem YQ {s : List TPkg} (h : zo s = true) : q7 (yb s) = true ∧ diskTrue (yb s) = true := by
  have h1 : q7 (yb s) = true := zI.2 ⟨jc.2 fun i hi => by
    have hi : i < 6 := by have : (zj s).length = 6 := kv s; have hi : i < (zj s).length := hi; omega
    have := KM h hi
    unfold xP yb; dsimp only; omega, kv s, h, rfl, .inr rfl⟩
  refine ⟨h1, ?_⟩
  unfold diskTrue
  rw [h1]; simp [yb]
theorem QT {d : TDisk} {l : List TStep} {i : Nat} (h : l.length ≤ i) : Qf d l i = l.foldl doP d := by unfold Qf; rw [List.take_of_length_le h]
theorem Qg {d : TDisk} {l : List TStep} {cut : Int} (torn : Bool) (h : (l.length : Int) ≤ cut) : toP d l cut torn = l.foldl doP d := by
  rw [ZE (by omega)]
  have : cutN l cut = l.length := by unfold cutN; omega
  rw [this, QT (Nat.le_refl _)]
def InvM (s : List TPkg) (x : TDisk) : Prop := q7 x = true ∧ (x.has = true ∧ x.jour = s ∨ x = yb s)
theorem qlr {s : List TPkg} {x : TDisk} {t : TStep} (h : x.has = true ∧ x.jour = s) (hk : t.kind = 2 ∨ t.kind = 3) : (doP x t).has = true ∧ (doP x t).jour = s := by
  rcases hk with k | k
  · rw [Jl k]; exact h
  · rw [qfT k]; exact h
theorem qfD {s : List TPkg} {x : TDisk} {t : TStep} (h : x.has = true ∧ x.jour = s) : (kB x t).has = true ∧ (kB x t).jour = s := by
  by_cases k : t.kind = 2
  · rw [qaq k]; exact h
  · by_cases k3 : t.kind = 3
    · rw [qar k3]; exact h
    · rw [YP k k3]; exact h
theorem qfE {s : List TPkg} : ∀ {l : List TStep} {x : TDisk}, x.has = true ∧ x.jour = s → (∀ t, t ∈ l → t.kind = 2 ∨ t.kind = 3) → (l.foldl doP x).has = true ∧ (l.foldl doP x).jour = s := by
  intro l
  induction l with
  | nil => intro x h _; exact h
  | cons t l ih => intro x h hl; exact ih (qlr h (hl t (List.mem_cons_self ..))) fun y hy => hl y (List.mem_cons_of_mem _ hy)
theorem Qh (d : TDisk) (s : List TPkg) : zY d s = (zG (zj s) d.files 6 ++ [⟨3, 0, 0, s⟩]) ++ [⟨4, 0, 0, []⟩] := by unfold zY; simp
theorem qcg {d : TDisk} {s : List TPkg} : ∀ t, t ∈ zG (zj s) d.files 6 ++ [⟨3, 0, 0, s⟩] → t.kind = 2 ∨ t.kind = 3 := by
  intro t h
  rcases List.mem_append.1 h with h | h
  · unfold zG at h
    obtain ⟨j, hj, rfl⟩ := List.mem_map.1 h
    exact .inl rfl
  · obtain rfl := List.mem_singleton.1 h
    exact .inr rfl
theorem qhF (d : TDisk) (cut : Int) (torn : Bool) : toP d [] cut torn = d := by
  rw [ZE (by simp; omega)]; unfold Qf; simp
theorem qiI {s : List TPkg} {x : TDisk} (h : InvM s x) (cut : Int) (torn : Bool) : InvM s (toP x (za x) cut torn) := by
  obtain ⟨ho, h⟩ := h
  refine ⟨qiH ho (xD ho) _ _, ?_⟩
  rcases h with h | rfl
  · have hm : za x = zY x s := by unfold za; rw [if_pos h.1, h.2]
    rw [hm]
    have hf := zD ho
    have hlen : (zY x s).length = (zG (zj s) x.files 6 ++ [(⟨3, 0, 0, s⟩ : TStep)]).length + 1 := by rw [Qh]; simp
    by_cases hc : cutN (zY x s) cut < (zY x s).length
    · have hk : (Qf x (zY x s) (cutN (zY x s) cut)).has = true ∧ (Qf x (zY x s) (cutN (zY x s) cut)).jour = s := by
        unfold Qf
        refine qfE h fun t ht => qcg (d := x) (s := s) t ?_
        rw [Qh, List.take_append_of_le_length (by rw [Qh] at *; omega)] at ht
        exact List.mem_of_mem_take ht
      unfold toP; split
      · exact .inl (qfD hk)
      · exact .inl hk
    · right
      rw [Qg _ (by unfold cutN at hc; omega), jO hf]
  · right
    have : za (yb s) = [] := rfl
    rw [this]
    exact qhF _ _ _
theorem qat {s : List TPkg} {x : TDisk} (h : InvM s x) : ym x = (yb s, true) := by
  obtain ⟨ho, h⟩ := h
  unfold ym
  obtain ⟨e1, e2⟩ := kS ho
  rw [jN ho e2 (Int.natCast_nonneg _), e1, Qg _ (Int.le_refl _)]
  rcases h with h | rfl
  · have hm : za x = zY x s := by unfold za; rw [if_pos h.1, h.2]
    rw [hm, jO (zD ho)]
  · rfl
theorem wY {d : TDisk} (h : d.has = false) : za d = [] := by unfold za; rw [if_neg (by rw [h]; decide)]
theorem WC (d : TDisk) (cut : Int) (torn : Bool) : toP d [] cut torn = d := by
  rw [ZE (by simp; omega)]; unfold Qf; simp
theorem WD {d : TDisk} (hd : q7 d = true) (c1 c2 : Int) (t1 t2 : Bool) : q7 (toP d (za d) c1 t1) = true ∧ q7 (toP (toP d (za d) c1 t1) (za (toP d (za d) c1 t1)) c2 t2) = true ∧ ∃ r, ym (toP (toP d (za d) c1 t1) (za (toP d (za d) c1 t1)) c2 t2) = (r, true) ∧ ym d = (r, true) := by
  cases h : d.has
  · rw [wY h, WC, wY h, WC]
    refine ⟨hd, hd, d, ?_, ?_⟩
    all_goals
      unfold ym
      obtain ⟨e1, e2⟩ := kS hd
      rw [jN hd e2 (Int.natCast_nonneg _), e1, wY h, WC]
  · have h1 := qiI (s := d.jour) ⟨hd, .inl ⟨h, rfl⟩⟩ c1 t1
    have h2 := qiI h1 c2 t2
    exact ⟨h1.1, h2.1, _, qat h2, qat ⟨hd, .inl ⟨h, rfl⟩⟩⟩
theorem qfF (p q : Nat → Bool) (i : Nat) (hp : p i = true) (hq : q i = false) (h : ∀ j, j ≠ i → p j = q j) : ∀ k, i < k → ((List.range k).filter p).length = ((List.range k).filter q).length + 1 := by
  have h0 : ∀ k, k ≤ i → (List.range k).filter p = (List.range k).filter q := fun k hk => by
    apply List.filter_congr
    intro j hj
    exact h j (by have := List.mem_range.1 hj; omega)
  intro k
  induction k with
  | zero => intro h; omega
  | succ k ih =>
    intro hk
    rw [List.range_succ, List.filter_append, List.filter_append, List.length_append, List.length_append]
    by_cases e : i = k
    · subst e
      rw [h0 _ (Nat.le_refl _)]
      simp [hp, hq]
    · rw [ih (by omega)]
      have : p k = q k := h k (fun h9 => e h9.symm)
      by_cases e2 : q k = true <;> simp [this, e2] <;> omega
theorem qfG {w f : List Int} {i : Nat} (hi : i < 6) (hf : f.length = 6) (h : nth w i ≠ nth f i) : (zG w f 6).length = (zG w (f.set i (nth w i)) 6).length + 1 := by
  unfold zG
  rw [List.length_map, List.length_map]
  refine qfF _ _ i (by simpa using h) ?_ (fun j hj => ?_) 6 hi
  · rw [kL, if_pos ⟨rfl, by omega⟩]; simp
  · rw [kL, if_neg (fun h9 => hj h9.1.symm)]
theorem yZ (d : TDisk) (s : List TPkg) : (zY d s).length = (zG (zj s) d.files 6).length + 2 := by unfold zY; simp
theorem YR {d : TDisk} {s : List TPkg} {k : Nat} (hk : k < (zY d s).length) (h2 : (nth (zY d s) k).kind = 2) : ∃ i : Nat, i < 6 ∧ nth (zY d s) k = ⟨2, i, nth (zj s) i, []⟩ ∧ nth (zj s) i ≠ nth d.files i := by
  have hm := zX hk
  generalize nth (zY d s) k = t at *
  unfold zY zG at hm
  rcases List.mem_append.1 hm with h | h
  · obtain ⟨j, hj, rfl⟩ := List.mem_map.1 h
    obtain ⟨hj, hne⟩ := List.mem_filter.1 hj
    exact ⟨j, List.mem_range.1 hj, rfl, of_decide_eq_true hne⟩
  · rcases List.mem_cons.1 h with rfl | h
    · cases h2
    · obtain rfl := List.mem_singleton.1 h
      cases h2
theorem qch {d : TDisk} (hd : q7 d = true) {k : Nat} (hk : k < (za d).length) (h2 : (nth (za d) k).kind = 2) : q7 (doP d (nth (za d) k)) = true ∧ (za (doP d (nth (za d) k))).length + 1 = (za d).length := by
  refine ⟨qfz hd (kl.1 (xD hd) _ (zX hk)), ?_⟩
  cases h : d.has
  · rw [wY h] at hk; exact absurd hk (Nat.not_lt_zero _)
  · have hm : za d = zY d d.jour := by unfold za; rw [if_pos h]
    rw [hm] at hk h2 ⊢
    obtain ⟨i, hi, e, hne⟩ := YR hk h2
    rw [e, Jl rfl]
    have hm2 : za { d with files := d.files.set (i : Int).toNat (nth (zj d.jour) i) } = zY { d with files := d.files.set (i : Int).toNat (nth (zj d.jour) i) } d.jour := by unfold za; rw [if_pos h]
    show (za { d with files := d.files.set (i : Int).toNat (nth (zj d.jour) i) }).length + 1 = _
    rw [hm2, yZ, yZ, qfG hi (zD hd) hne]
    rfl
theorem qhG (w f : List Int) {i : Nat} (h : nth w i ≠ nth f i) : ∀ j, i < j → ∃ r, zG w f j = zG w f i ++ (⟨2, i, nth w i, []⟩ :: r) := by
  intro j
  induction j with
  | zero => intro h; omega
  | succ j ih =>
    intro hj
    by_cases e : i = j
    · subst e; exact ⟨[], wV h⟩
    · obtain ⟨r, hr⟩ := ih (by omega)
      by_cases e2 : nth w j = nth f j
      · exact ⟨r, by rw [xr e2, hr]⟩
      · exact ⟨r ++ [⟨2, j, nth w j, []⟩], by rw [wV e2, hr]; simp⟩
theorem Jm {α : Type} [Inhabited α] (a : List α) (x : α) (r : List α) : nth (a ++ x :: r) a.length = x := by
  simp [nth, List.getD_eq_getElem?_getD]
theorem qfH {d : TDisk} {s : List TPkg} {i : Nat} (hi : i < 6) (h : nth (zj s) i ≠ nth d.files i) : (zG (zj s) d.files i).length + 1 < (zE d s).length - 2 ∧ nth (zE d s) ((zG (zj s) d.files i).length + 1) = ⟨2, i, nth (zj s) i, []⟩ := by
  obtain ⟨r, hr⟩ := qhG _ _ h 6 hi
  unfold zE zY
  rw [hr]
  refine ⟨by simp, ?_⟩
  rw [List.append_assoc, List.cons_append]
  have := Jm (⟨1, 0, 0, s⟩ :: zG (zj s) d.files i) ⟨2, i, nth (zj s) i, []⟩ (r ++ [⟨3, 0, 0, s⟩, ⟨4, 0, 0, []⟩])
  simpa using this
theorem YS {d : TDisk} {s : List TPkg} : nth (zY d s) ((zY d s).length - 2) = ⟨3, 0, 0, s⟩ ∧ nth (zY d s) ((zY d s).length - 1) = ⟨4, 0, 0, []⟩ := by
  rw [yZ]
  unfold zY
  constructor
  · exact Jm _ _ _
  · have := Jm (zG (zj s) d.files 6 ++ [⟨3, 0, 0, s⟩]) ⟨4, 0, 0, []⟩ []
    rw [List.append_assoc] at this
    simpa using this
theorem wz {d : TDisk} {s : List TPkg} : nth (zE d s) 0 = ⟨1, 0, 0, s⟩ ∧ nth (zE d s) ((zE d s).length - 2) = ⟨3, 0, 0, s⟩ ∧ nth (zE d s) ((zE d s).length - 1) = ⟨4, 0, 0, []⟩ ∧ (zE d s).length = (zG (zj s) d.files 6).length + 3 := by
  have hl : (zE d s).length = (zG (zj s) d.files 6).length + 3 := by unfold zE; rw [List.length_cons, yZ]
  have h1 := YS (d := d) (s := s)
  have hs : ∀ j, nth (zE d s) (j + 1) = nth (zY d s) j := fun j => by unfold zE; simp [nth]
  rw [yZ] at h1
  refine ⟨rfl, ?_, ?_, hl⟩
  · rw [hl]; exact (hs _).trans h1.1
  · rw [hl]; exact (hs _).trans h1.2
theorem qhH {d : TDisk} {s : TStep} {j : Int} {v : Int} (hs : zO s = true) (h1 : s.kind ≠ 1) (h4 : s.kind ≠ 4) (hj : 0 ≤ j) (hn : ¬ (s.kind = 2 ∧ s.path = j)) : doP (doP d s) ⟨2, j, v, []⟩ = doP (doP d ⟨2, j, v, []⟩) s := by
  rcases QG hs with ⟨k, hp⟩ | ⟨k, hp, hq⟩ | ⟨k, hp⟩ | k
  · exact absurd k h1
  · have e : ∀ x : TDisk, doP x ⟨2, j, v, []⟩ = { x with files := x.files.set j.toNat v } := fun x => Jl rfl
    rw [e, e, Jl k, Jl k]
    dsimp only
    rw [List.set_comm]
    omega
  · have e : ∀ x : TDisk, doP x ⟨2, j, v, []⟩ = { x with files := x.files.set j.toNat v } := fun x => Jl rfl
    rw [e, e, qfT k, qfT k]
  · exact absurd k h4
theorem qhI {d : TDisk} {s : TStep} {j : Int} {v : Int} (hs : s.kind = 2 ∧ s.path = j) : doP (doP d s) ⟨2, j, v, []⟩ = doP d ⟨2, j, v, []⟩ := by
  have e : ∀ x : TDisk, doP x ⟨2, j, v, []⟩ = { x with files := x.files.set j.toNat v } := fun x => Jl rfl
  rw [e, e, Jl hs.1]
  dsimp only
  rw [hs.2, List.set_set]
end Go.Proofs.Ytfjbclgbpdlkgaa

/- Disks: the laws' first lines. -/
namespace Go.Proofs.Ytfjbclgbpdlkgaa
open Go
set_option linter.unusedVariables false
set_option linter.unusedSimpArgs false
set_option maxHeartbeats 4000000
theorem wd.len {t : TStep} (h : wd t) : TLenS t := ⟨Nat.le_trans h.1 (by decide), zK h.2⟩
theorem kE (a b : TDisk) (h : a = b) (hL : DLen b) : Ex (fun m => qd prg m 25 [qR a, qR b] []) (bB true) [] := by
  subst h
  have := qhA a a hL
  rwa [decide_eq_true rfl] at this
theorem Qi (a b : List TPkg) (h : a = b) (h47 : b.length ≤ 2000000) (hp0 : PL b) : Ex (fun m => qd prg m 26 [.sl 4 (a.map zh), .sl 4 (b.map zh)] []) (bB true) [] := by
  subst h
  have := Wy a a h47 hp0
  rwa [decide_eq_true rfl] at this
theorem qls (a b : List Int) (h : a = b) (h47 : b.length ≤ 140737488355328) : Ex (fun m => qd prg m 20 [.sl 1 (a.map iI), .sl 1 (b.map iI)] []) (bB true) [] := by
  subst h
  have := Wm a a h47
  rwa [decide_eq_true rfl] at this
theorem Qj (d : TDisk) (h : DLen d) (hk : q7 d = true) : Ex (fun m => qd prg m 19 [qR d] []) (bB true) [] := by
  have := w6 d h
  rwa [hk] at this
theorem qci : DLen kw := ⟨Nat.zero_le _, jK, Nat.zero_le _, Nat.zero_le _, jK⟩
structure Gone (d : TDisk) (t : TStep) (x : TDisk) : Prop where
  eq : x = doP d t
  dok : q7 d = true
  tok : zO t = true
  ok : q7 x = true
  len : DLen x
  six : x.files.length = 6
  dsix : d.files.length = 6
theorem qau (d : TDisk) (t : TStep) (hd : SDisk d) (ht : wd t) (h1 : q7 d = true) (h2 : zO t = true) : Gone d t (doP d t) := by
  have h6 := zD h1
  have h7 : (doP d t).files.length = 6 := by rw [ZC]; exact h6
  exact ⟨rfl, h1, h2, qfz h1 h2, (qhB hd ht).len (by omega), h7, h6⟩
theorem y2 (d : TDisk) (t : TStep) (hL : DLen d) (ht : TLenS t) (h1 : q7 d = true) (h2 : zO t = true) : Ex (fun m => qd prg m 24 [qR d, zc t] []) (.tup [qR (doP d t), bB true]) [] := by
  have := jI d t hL ht
  have e : Qz d t = (doP d t, true) := if_pos ⟨h1, h2⟩
  rw [e] at this
  exact this
theorem WE (d : TDisk) (t : TStep) (hd : SDisk d) (hf : d.files.length ≤ 6) (hts : wd t) :
    (∃ x, Gone d t x ∧ Ex (fun m => qd prg m 23 [qR d, zc t] []) (.tup [qR x, bB true]) [] ∧ Ex (fun m => qd prg m 24 [qR d, zc t] []) (.tup [qR x, bB true]) [])
    ∨ (¬ (q7 d = true ∧ zO t = true) ∧ Ex (fun m => qd prg m 23 [qR d, zc t] []) (.tup [qR kw, bB false]) [] ∧ Ex (fun m => qd prg m 24 [qR d, zc t] []) (.tup [qR kw, bB false]) []) := by
  have hL := hd.len (by omega)
  have hT := hts.len
  have hS := qfl d t hL hT
  have hI := jI d t hL hT
  by_cases h : q7 d = true ∧ zO t = true
  · have e : Qz d t = (doP d t, true) := if_pos h
    rw [e] at hS hI
    exact .inl ⟨_, qau d t hd hts h.1 h.2, hS, hI⟩
  · have e : Qz d t = (kw, false) := if_neg h
    rw [e] at hS hI
    exact .inr ⟨h, hS, hI⟩
theorem Qk (d : TDisk) (t : TStep) (hd : SDisk d) (hf : d.files.length ≤ 6) (hts : wd t) :
    (∃ x, x = kB d t ∧ q7 d = true ∧ zO t = true ∧ q7 x = true ∧ DLen x ∧ SDisk x ∧ x.files.length = 6 ∧ d.files.length = 6 ∧ Ex (fun m => qd prg m 30 [qR d, zc t] []) (.tup [qR x, bB true]) [] ∧ Ex (fun m => qd prg m 28 [qR d, zc t] []) (.tup [qR x, bB true]) [])
    ∨ (¬ (q7 d = true ∧ zO t = true) ∧ Ex (fun m => qd prg m 30 [qR d, zc t] []) (.tup [qR kw, bB false]) [] ∧ Ex (fun m => qd prg m 28 [qR d, zc t] []) (.tup [qR kw, bB false]) []) := by
  have hL := hd.len (by omega)
  have hT := hts.len
  have hS := Jh d t hL hT
  have hI := ja d t hL hT
  by_cases h : q7 d = true ∧ zO t = true
  · have e : yk d t = (kB d t, true) := if_pos h
    rw [e] at hS hI
    have h6 := zD h.1
    have h7 : (kB d t).files.length = 6 := by rw [ZD]; exact h6
    exact .inl ⟨_, rfl, h.1, h.2, qas h.1, (Jk hd).len (by omega), Jk hd, h7, h6, hS, hI⟩
  · have e : yk d t = (kw, false) := if_neg h
    rw [e] at hS hI
    exact .inr ⟨h, hS, hI⟩
end Go.Proofs.Ytfjbclgbpdlkgaa

/- Disks: what the laws of many steps lean on. -/
namespace Go.Proofs.Ytfjbclgbpdlkgaa
open Go
set_option linter.unusedVariables false
set_option linter.unusedSimpArgs false
set_option maxHeartbeats 4000000
theorem yd {d : TDisk} (h : d.files.length ≤ 6) : d.files.length ≤ 2000000 := Nat.le_trans h (by decide)
theorem Ql (d : TDisk) (hd : SDisk d) : ∃ M, M = zp d ∧ M.length ≤ 8 ∧ (∀ t, t ∈ M → wd t) ∧ (q7 d = false → M = []) ∧ (d.has = false → M = []) ∧ (q7 d = true → M = za d) ∧ (q7 d = true → d.has = true → M = zY d d.jour) := by
  refine ⟨_, rfl, Wz, ?_, ?_, ?_, ?_, ?_⟩
  · intro t ht
    unfold zp at ht; split at ht
    · exact yp hd t ht
    · cases ht
  · intro h; unfold zp; rw [if_neg (by rw [h]; decide)]
  · intro h; unfold zp; rw [wY h]; split <;> rfl
  · intro h; unfold zp; rw [if_pos h]
  · intro h h2; unfold zp; rw [if_pos h]; unfold za; rw [if_pos h2]
theorem qhN {d : TDisk} {s : List TPkg} {i : Nat} (h : i + 2 < (zY d s).length) : (nth (zY d s) i).kind = 2 ∧ (0 ≤ (nth (zY d s) i).path ∧ (nth (zY d s) i).path < 6) ∧ nth (zj s) (nth (zY d s) i).path.toNat = (nth (zY d s) i).data ∧ nth d.files (nth (zY d s) i).path.toNat ≠ (nth (zY d s) i).data := by
  have hk : (nth (zY d s) i).kind = 2 := by
    rw [yZ] at h
    have e : nth (zY d s) i = nth (zG (zj s) d.files 6) i := by
      unfold zY
      simp only [nth, List.getD_eq_getElem?_getD]
      rw [List.getElem?_append_left (by omega)]
    rw [e]
    have hm := zX (l := zG (zj s) d.files 6) (k := i) (by omega)
    generalize nth (zG (zj s) d.files 6) i = t at hm
    unfold zG at hm
    obtain ⟨j, hj, rfl⟩ := List.mem_map.1 hm
    rfl
  obtain ⟨j, hj, e, hne⟩ := YR (by omega) hk
  rw [e]
  refine ⟨rfl, by dsimp only; omega, by dsimp only; rw [Int.toNat_natCast], ?_⟩
  dsimp only
  rw [Int.toNat_natCast]
  exact fun h9 => hne h9.symm
theorem jd (d : TDisk) (l : List TStep) (hL : DLen d) (hl : l.length ≤ 2000000) (ht : ∀ t, t ∈ l → wd t) (cut : Int) (torn : Bool) (h1 : q7 d = true) (h2 : z9 l = true) (h3 : 0 ≤ cut) : Ex (fun m => qd prg m 36 [qR d, .sl 4 (l.map zc), iI cut, bB torn] []) (.tup [qR (toP d l cut torn), bB true]) [] := by
  have := jJ d l hL hl (fun i hi => (ht _ (zX hi)).len) cut torn
  rw [jN h1 h2 h3] at this
  exact this
theorem KN (d : TDisk) (s : List TPkg) (hd : SDisk d) (hs : s.length ≤ 9) (hsm : kh s) : ∃ M, M = w9 d s ∧ M.length ≤ 9 ∧ (∀ t, t ∈ M → wd t) ∧ (¬ (diskTrue d = true ∧ zo s = true) → M = []) ∧ (diskTrue d = true ∧ zo s = true → M = zE d s) := by
  by_cases h : diskTrue d = true ∧ zo s = true
  · have e : w9 d s = zE d s := if_pos h
    exact ⟨_, rfl, by rw [e]; exact wW d s, by rw [e]; exact yn hs hsm, fun h9 => absurd h h9, fun _ => e⟩
  · have e : w9 d s = [] := if_neg h
    exact ⟨_, rfl, by rw [e]; exact Nat.zero_le _, by rw [e]; exact (fun t ht => by cases ht), fun _ => e, fun h9 => absurd h9 h⟩
theorem qav (d : TDisk) (l : List TStep) (hd : SDisk d) (hf : d.files.length ≤ 6) (hl : l.length ≤ 2000000) (ht : ∀ t, t ∈ l → wd t) (cut : Int) (torn : Bool) :
    (∃ y, y = toP d l cut torn ∧ q7 d = true ∧ 0 ≤ cut ∧ z9 l = true ∧ DLen y ∧ q7 y = true ∧ Ex (fun m => qd prg m 35 [qR d, .sl 4 (l.map zc), iI cut, bB torn] []) (.tup [qR y, bB true]) [] ∧ Ex (fun m => qd prg m 36 [qR d, .sl 4 (l.map zc), iI cut, bB torn] []) (.tup [qR y, bB true]) [])
    ∨ (Ex (fun m => qd prg m 35 [qR d, .sl 4 (l.map zc), iI cut, bB torn] []) (.tup [qR kw, bB false]) [] ∧ Ex (fun m => qd prg m 36 [qR d, .sl 4 (l.map zc), iI cut, bB torn] []) (.tup [qR kw, bB false]) []) := by
  have hL := hd.len (yd hf)
  have hT : ∀ i, i < l.length → TLenS (nth l i) := fun i hi => (ht _ (zX hi)).len
  have hS := qfn d l hL hl hT cut torn
  have hI := jJ d l hL hl hT cut torn
  by_cases h : q7 d = true ∧ 0 ≤ cut ∧ z9 l = true
  · have e : yl d l cut torn = (toP d l cut torn, true) := if_pos h
    rw [e] at hS hI
    exact .inl ⟨_, rfl, h.1, h.2.1, h.2.2, (QF hd ht).len (by rw [kd]; omega), qiH h.1 h.2.2 _ _, hS, hI⟩
  · have e : yl d l cut torn = (kw, false) := if_neg h
    rw [e] at hS hI
    exact .inr ⟨hS, hI⟩
theorem qfL (d : TDisk) (t : TStep) (hL : DLen d) (ht : TLenS t) (h1 : q7 d = true) (h2 : zO t = true) : Ex (fun m => qd prg m 28 [qR d, zc t] []) (.tup [qR (kB d t), bB true]) [] := by
  have := ja d t hL ht
  have e : yk d t = (kB d t, true) := if_pos ⟨h1, h2⟩
  rw [e] at this
  exact this
theorem qfM {d : TDisk} {l : List TStep} (h : SDisk d) (hl : ∀ t, t ∈ l → wd t) (i : Nat) : SDisk (Qf d l i) := qfr h fun t ht => hl t (List.mem_of_mem_take ht)
end Go.Proofs.Ytfjbclgbpdlkgaa
