/- The law FnToNone, in S: S says yes, whatever the bytes. -/
import Derived.Test.YtfjbclgbpdlkgaaV59
namespace Go.Proofs.Ytfjbclgbpdlkgaa
open Go
set_option linter.unusedVariables false
set_option linter.unusedSimpArgs false
set_option maxHeartbeats 40000000
set_option maxRecDepth 100000
theorem qcl (d : TDisk) (l : List TStep) (hd : SDisk d) (hf : d.files.length ≤ 6) (hl : l.length ≤ 10) (ht : ∀ t, t ∈ l → wd t) (torn : Bool) (h1 : q7 d = true) (h2 : z9 l = true) :
    ∃ z, DLen z ∧ DLen d ∧ Ex (fun m => qd prg m 36 [qR d, .sl 4 [], iI 3, bB true] []) (.tup [qR d, bB true]) [] ∧ Ex (fun m => qd prg m 36 [qR d, .sl 4 (l.map zc), iI 0, bB false] []) (.tup [qR d, bB true]) []
      ∧ Ex (fun m => qd prg m 36 [qR d, .sl 4 (l.map zc), iI l.length, bB torn] []) (.tup [qR z, bB true]) [] ∧ Ex (fun m => qd prg m 36 [qR d, .sl 4 (l.map zc), iI (l.length + 5), bB false] []) (.tup [qR z, bB true]) []
      ∧ Ex (fun m => qd prg m 36 [qR d, .sl 4 (l.map zc), iI (-1), bB torn] []) (.tup [qR kw, bB false]) [] := by
  have hL := hd.len (yd hf)
  have a1 := jd d [] hL (Nat.zero_le _) (fun t h => by cases h) 3 true h1 (kl.2 fun t h => by cases h) (by decide)
  have a2 := jd d l hL (by omega) ht 0 false h1 h2 (by decide)
  have a3 := jd d l hL (by omega) ht l.length torn h1 h2 (by omega)
  have a4 := jd d l hL (by omega) ht (l.length + 5) false h1 h2 (by omega)
  have a5 := jJ d l hL (by omega) (fun i hi => (ht _ (zX hi)).len) (-1) torn
  rw [WC] at a1
  rw [show toP d l 0 false = d by rw [qam]; unfold Qf cutN; simp] at a2
  rw [Qg _ (Int.le_refl _)] at a3
  rw [Qg _ (by omega)] at a4
  rw [show yl d l (-1) torn = (kw, false) from if_neg fun h => absurd h.2.1 (by decide)] at a5
  exact ⟨_, (qfr hd ht).len (by rw [← QT (Nat.le_refl _), wy]; omega), hL, a1, a2, a3, a4, a5⟩
theorem qhO (d : TDisk) (l : List TStep) (hd : SDisk d) (hf : d.files.length ≤ 6) (hl : l.length ≤ 10) (ht : ∀ t, t ∈ l → wd t) (cut : Int) (torn : Bool) :
    (∃ y, DLen y ∧ Ex (fun m => qd prg m 35 [qR d, .sl 4 (l.map zc), iI cut, bB torn] []) (.tup [qR y, bB true]) [] ∧ Ex (fun m => qd prg m 36 [qR d, .sl 4 (l.map zc), iI cut, bB torn] []) (.tup [qR y, bB true]) [] ∧
    ∃ z, DLen z ∧ DLen d ∧ Ex (fun m => qd prg m 36 [qR d, .sl 4 [], iI 3, bB true] []) (.tup [qR d, bB true]) [] ∧ Ex (fun m => qd prg m 36 [qR d, .sl 4 (l.map zc), iI 0, bB false] []) (.tup [qR d, bB true]) []
      ∧ Ex (fun m => qd prg m 36 [qR d, .sl 4 (l.map zc), iI l.length, bB torn] []) (.tup [qR z, bB true]) [] ∧ Ex (fun m => qd prg m 36 [qR d, .sl 4 (l.map zc), iI (l.length + 5), bB false] []) (.tup [qR z, bB true]) []
      ∧ Ex (fun m => qd prg m 36 [qR d, .sl 4 (l.map zc), iI (-1), bB torn] []) (.tup [qR kw, bB false]) [])
    ∨ (Ex (fun m => qd prg m 35 [qR d, .sl 4 (l.map zc), iI cut, bB torn] []) (.tup [qR kw, bB false]) [] ∧ Ex (fun m => qd prg m 36 [qR d, .sl 4 (l.map zc), iI cut, bB torn] []) (.tup [qR kw, bB false]) []) := by
  rcases qav d l hd hf (by omega) ht cut torn with ⟨y, -, h1, h2, h3, hL, hyy, hS, hI⟩ | h
  · exact .inl ⟨y, hL, hS, hI, qcl d l hd hf hl ht torn h1 h3⟩
  · exact .inr h
theorem pureFnToNone : ∀ l : List Int, l.length ≤ 140737488351232 → (∀ x ∈ l, (Lit.int .u8 x).wf = true) → ∃ n los, qd prg n 9 [.sl 1 (l.map bI)] [] = some (.v (.bool true), los) := by
  intro l hlen hw
  refine wM ?_
  (refine U9 (nl := 0) rfl ?_; unfold B9)
  repeat' (first|(rw [show nilA tab 48 = .sl 4 [] from rfl])|((with_reducible refine eG ?_);first|(with_reducible first|refine qX ?_|refine qY ?_|refine qZ ?_|refine q4 ?_|refine zm ?_)|refine qe rfl ?_|refine qb rfl ?_|((with_reducible refine zn ?_ ?_)<;>intro h))|((with_reducible refine eB ?_);first|((with_reducible first|refine ka ?_ ?_|refine zr ?_ ?_|refine kb ?_ ?_)<;>intro h<;>try (exfalso;omega))|((with_reducible refine zi ?_ ?_);· omega)|refine qe rfl ?_|refine qb rfl ?_)|((with_reducible refine eL ?_);first|((with_reducible refine qI ?_ ?_);· rfl)|refine qy rfl rfl ?_|refine qG rfl rfl ?_|refine qz rfl rfl rfl ?_|refine qJ rfl rfl ?_|refine qH rfl rfl ?_|refine qK rfl ?_|refine qe rfl ?_|refine qb rfl ?_)|((with_reducible refine eC ?_);first|((refine zk (QC l (kW hw)) rfl rfl ?_);((rintro _ _ ⟨d,st,cut,torn,rfl,rfl,hd,hf,hl,hts,hc1,hc2⟩)<;>(((rcases qhO d st hd hf hl hts cut torn with ⟨y,hL,hS,hI,z,hLz,hLd,a1,a2,a3,a4,a5⟩|⟨hS,hI⟩)))<;>(first|(refine zF ?_ rfl ?_;(focus first|exact .inl rfl|exact .inr rfl|(refine .inr ?_;simp [qo,qm,qh,qg,SO.hasSl,List.all_map,qi,SV.cells,Function.comp_def];done)))|(refine zl ?_ rfl ?_;(focus first|rfl|(simp [qo,qm,qh,qg,SO.hasSl,List.all_map,qi,SV.cells,Function.comp_def];done))))))|((refine qk (hS ..) rfl rfl ?_ rfl ?_);(focus first|exact .inl rfl|exact .inr rfl|(refine .inr ?_;simp [qo,qm,qh,qg,SO.hasSl,List.all_map,qi,SV.cells,Function.comp_def];done)))|((refine qk (hI ..) rfl rfl ?_ rfl ?_);(focus first|exact .inl rfl|exact .inr rfl|(refine .inr ?_;simp [qo,qm,qh,qg,SO.hasSl,List.all_map,qi,SV.cells,Function.comp_def];done)))|((refine qk (kE kw kw rfl qci) rfl rfl ?_ rfl ?_);(focus first|exact .inl rfl|exact .inr rfl|(refine .inr ?_;simp [qo,qm,qh,qg,SO.hasSl,List.all_map,qi,SV.cells,Function.comp_def];done)))|((refine qk (kE y y rfl hL) rfl rfl ?_ rfl ?_);(focus first|exact .inl rfl|exact .inr rfl|(refine .inr ?_;simp [qo,qm,qh,qg,SO.hasSl,List.all_map,qi,SV.cells,Function.comp_def];done)))|((refine qk (a1 ..) rfl rfl ?_ rfl ?_);(focus first|exact .inl rfl|exact .inr rfl|(refine .inr ?_;simp [qo,qm,qh,qg,SO.hasSl,List.all_map,qi,SV.cells,Function.comp_def];done)))|((refine qk (a2 ..) rfl rfl ?_ rfl ?_);(focus first|exact .inl rfl|exact .inr rfl|(refine .inr ?_;simp [qo,qm,qh,qg,SO.hasSl,List.all_map,qi,SV.cells,Function.comp_def];done)))|((refine qk (a3 ..) rfl rfl ?_ rfl ?_);(focus first|exact .inl rfl|exact .inr rfl|(refine .inr ?_;simp [qo,qm,qh,qg,SO.hasSl,List.all_map,qi,SV.cells,Function.comp_def];done)))|((refine qk (a4 ..) rfl rfl ?_ rfl ?_);(focus first|exact .inl rfl|exact .inr rfl|(refine .inr ?_;simp [qo,qm,qh,qg,SO.hasSl,List.all_map,qi,SV.cells,Function.comp_def];done)))|((refine qk (a5 ..) rfl rfl ?_ rfl ?_);(focus first|exact .inl rfl|exact .inr rfl|(refine .inr ?_;simp [qo,qm,qh,qg,SO.hasSl,List.all_map,qi,SV.cells,Function.comp_def];done)))|((refine qk (kE d d rfl hLd) rfl rfl ?_ rfl ?_);(focus first|exact .inl rfl|exact .inr rfl|(refine .inr ?_;simp [qo,qm,qh,qg,SO.hasSl,List.all_map,qi,SV.cells,Function.comp_def];done)))|((refine qk (kE z z rfl hLz) rfl rfl ?_ rfl ?_);(focus first|exact .inl rfl|exact .inr rfl|(refine .inr ?_;simp [qo,qm,qh,qg,SO.hasSl,List.all_map,qi,SV.cells,Function.comp_def];done))))|((with_reducible refine eK ?_);first|(with_reducible first|refine qT ?_|refine qU ?_)|((with_reducible refine qr ?_ ?_)<;>intro h))|((with_reducible refine eO ?_);first|refine qe rfl ?_|(refine qB rfl ?_ ?_<;>intro h<;>try (exfalso;simp_all;done))|refine qb rfl ?_|(refine qF rfl ?_ rfl ?_;(focus omega))|(refine qt rfl ?_ rfl ?_ ?_;(focus omega);(all_goals intro h)))|((with_reducible refine eD ?_);first|refine qe rfl ?_|refine qb rfl ?_|((with_reducible refine qC ?_ ?_)<;>intro h))|refine qq rfl ?_)
  all_goals first
    | rfl
    | trace_state
end Go.Proofs.Ytfjbclgbpdlkgaa
