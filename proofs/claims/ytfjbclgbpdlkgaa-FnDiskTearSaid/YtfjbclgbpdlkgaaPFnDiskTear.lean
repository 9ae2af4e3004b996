/- The law FnDiskTear, in S: S says yes, whatever the bytes. -/
import Derived.Test.YtfjbclgbpdlkgaaV59
namespace Go.Proofs.Ytfjbclgbpdlkgaa
open Go
set_option linter.unusedVariables false
set_option linter.unusedSimpArgs false
set_option maxHeartbeats 40000000
set_option maxRecDepth 100000
theorem qck {d : TDisk} {t : TStep} (h2 : zO t = true) (h6 : d.files.length = 6) : (t.kind = 1 ∨ t.kind = 2 ∨ t.kind = 3 ∨ t.kind = 4) ∧ (t.kind = 2 → 0 ≤ t.path ∧ t.path ≤ 5) ∧
    (t.kind = 2 → nth (kB d t).files t.path.toNat = -2) ∧ (t.kind = 3 → (kB d t).db = [] ∧ (kB d t).files = d.files) ∧ (t.kind ≠ 2 → t.kind ≠ 3 → kB d t = d) := by
  refine ⟨?_, ?_, ?_, ?_, ?_⟩
  · rcases QG h2 with ⟨k, -⟩ | ⟨k, -⟩ | ⟨k, -⟩ | k <;> omega
  · intro k
    rcases QG h2 with ⟨k, -⟩ | ⟨k, h, -⟩ | ⟨k, -⟩ | k <;> omega
  · intro k
    have hp : 0 ≤ t.path ∧ t.path ≤ 5 := by rcases QG h2 with ⟨k, -⟩ | ⟨k, h, -⟩ | ⟨k, -⟩ | k <;> omega
    rw [qaq k]; dsimp only; rw [kL, if_pos ⟨rfl, by omega⟩]
  · intro k; rw [qar k]; exact ⟨rfl, rfl⟩
  · exact YP
theorem Jn (d : TDisk) (t : TStep) (hd : SDisk d) (hf : d.files.length ≤ 6) (hts : wd t) :
    (∃ x, x = kB d t ∧ DLen x ∧ (x.files.length = 6 ∧ d.files.length = 6) ∧ ((t.kind = 1 ∨ t.kind = 2 ∨ t.kind = 3 ∨ t.kind = 4) ∧ (t.kind = 2 → 0 ≤ t.path ∧ t.path ≤ 5) ∧
    (t.kind = 2 → nth x.files t.path.toNat = -2) ∧ (t.kind = 3 → x.db = [] ∧ x.files = d.files) ∧ (t.kind ≠ 2 → t.kind ≠ 3 → x = d)) ∧
    Ex (fun m => qd prg m 30 [qR d, zc t] []) (.tup [qR x, bB true]) [] ∧ Ex (fun m => qd prg m 28 [qR d, zc t] []) (.tup [qR x, bB true]) [] ∧
    ∃ y, DLen y ∧ Ex (fun m => qd prg m 24 [qR x, zc t] []) (.tup [qR y, bB true]) [] ∧ Ex (fun m => qd prg m 24 [qR d, zc t] []) (.tup [qR y, bB true]) [] ∧ Ex (fun m => qd prg m 19 [qR x] []) (bB true) [])
    ∨ (Ex (fun m => qd prg m 30 [qR d, zc t] []) (.tup [qR kw, bB false]) [] ∧ Ex (fun m => qd prg m 28 [qR d, zc t] []) (.tup [qR kw, bB false]) []) := by
  rcases Qk d t hd hf hts with ⟨x, rfl, h1, h2, h3, h4, h5, h6, h7, hS, hI⟩ | h
  · have hy := qau d t hd hts h1 h2
    have hA := y2 _ t h4 hts.len h3 h2
    rw [qhD h2] at hA
    exact .inl ⟨_, rfl, h4, ⟨h6, h7⟩, qck h2 h7, hS, hI, doP d t, hy.len, hA, y2 d t (hd.len (by omega)) hts.len h1 h2, Qj _ h4 h3⟩
  · exact .inr h.2
theorem pureFnDiskTear : ∀ l : List Int, l.length ≤ 140737488351232 → (∀ x ∈ l, (Lit.int .u8 x).wf = true) → ∃ n los, qd prg n 7 [.sl 1 (l.map bI)] [] = some (.v (.bool true), los) := by
  intro l hlen hw
  refine wM ?_
  (refine U7 (nl := 0) rfl ?_; unfold B7)
  repeat' (first|((with_reducible refine eG ?_);first|(with_reducible first|refine qX ?_|refine qY ?_|refine qZ ?_|refine q4 ?_|refine zm ?_)|refine qe rfl ?_|refine qb rfl ?_|((with_reducible refine zn ?_ ?_)<;>intro h))|((with_reducible refine eB ?_);first|((with_reducible first|refine ka ?_ ?_|refine zr ?_ ?_|refine kb ?_ ?_)<;>intro h<;>try (exfalso;omega))|refine qe rfl ?_|refine qb rfl ?_)|((with_reducible refine eL ?_);first|((with_reducible refine qI ?_ ?_);· rfl)|refine qy rfl rfl ?_|refine qG rfl rfl ?_|refine qz rfl rfl rfl ?_|refine qJ rfl rfl ?_|refine qH rfl rfl ?_|refine qK rfl ?_|refine qe rfl ?_|refine qb rfl ?_)|((with_reducible refine eI ?_);first|((with_reducible refine q5 ?_ ?_ ?_);(·rfl);· omega)|(refine qN rfl rfl ?_ ?_;(·first|omega|(simp only [List.length_cons,List.length_nil,List.length_map,List.length_append];omega)))|(refine qO rfl rfl ?_ ?_;(focus omega))|((with_reducible refine q9 ?_ ?_ ?_);(·rfl);· omega)|(refine qS rfl rfl ?_ ?_;(·first|omega|(simp only [List.length_cons,List.length_nil,List.length_map,List.length_append];omega)))|(refine qW rfl rfl ?_ ?_;(focus omega))|refine qe rfl ?_|refine qb rfl ?_)|((with_reducible refine eC ?_);first|((refine zk (ZV l (kW hw)) rfl rfl ?_);((rintro _ _ ⟨d,t,rfl,rfl,hd,hf,hts⟩)<;>((rcases Jn d t hd hf hts with ⟨x,-,hL,⟨hx6,hd6⟩,⟨hk,hp,k2,k3,k0⟩,hS,hI,y,hLy,hA,hB,hO⟩|⟨hS,hI⟩))<;>(first|(refine zF ?_ rfl ?_;(focus first|exact .inl rfl|exact .inr rfl|(refine .inr ?_;simp [qo,qm,qh,qg,SO.hasSl,List.all_map,qi,SV.cells,Function.comp_def];done)))|(refine zl ?_ rfl ?_;(focus first|rfl|(simp [qo,qm,qh,qg,SO.hasSl,List.all_map,qi,SV.cells,Function.comp_def];done))))))|((refine qk (hS ..) rfl rfl ?_ rfl ?_);(focus first|exact .inl rfl|exact .inr rfl|(refine .inr ?_;simp [qo,qm,qh,qg,SO.hasSl,List.all_map,qi,SV.cells,Function.comp_def];done)))|((refine qk (hI ..) rfl rfl ?_ rfl ?_);(focus first|exact .inl rfl|exact .inr rfl|(refine .inr ?_;simp [qo,qm,qh,qg,SO.hasSl,List.all_map,qi,SV.cells,Function.comp_def];done)))|((refine qk (kE kw kw rfl qci) rfl rfl ?_ rfl ?_);(focus first|exact .inl rfl|exact .inr rfl|(refine .inr ?_;simp [qo,qm,qh,qg,SO.hasSl,List.all_map,qi,SV.cells,Function.comp_def];done)))|((refine qk (kE x x rfl hL) rfl rfl ?_ rfl ?_);(focus first|exact .inl rfl|exact .inr rfl|(refine .inr ?_;simp [qo,qm,qh,qg,SO.hasSl,List.all_map,qi,SV.cells,Function.comp_def];done)))|((refine qk (hA ..) rfl rfl ?_ rfl ?_);(focus first|exact .inl rfl|exact .inr rfl|(refine .inr ?_;simp [qo,qm,qh,qg,SO.hasSl,List.all_map,qi,SV.cells,Function.comp_def];done)))|((refine qk (hB ..) rfl rfl ?_ rfl ?_);(focus first|exact .inl rfl|exact .inr rfl|(refine .inr ?_;simp [qo,qm,qh,qg,SO.hasSl,List.all_map,qi,SV.cells,Function.comp_def];done)))|((refine qk (hO ..) rfl rfl ?_ rfl ?_);(focus first|exact .inl rfl|exact .inr rfl|(refine .inr ?_;simp [qo,qm,qh,qg,SO.hasSl,List.all_map,qi,SV.cells,Function.comp_def];done)))|((refine qk (kE y y rfl hLy) rfl rfl ?_ rfl ?_);(focus first|exact .inl rfl|exact .inr rfl|(refine .inr ?_;simp [qo,qm,qh,qg,SO.hasSl,List.all_map,qi,SV.cells,Function.comp_def];done)))|((refine qk (qls x.files d.files (k3 (by assumption)).2 (by omega)) rfl rfl ?_ rfl ?_);(focus first|exact .inl rfl|exact .inr rfl|(refine .inr ?_;simp [qo,qm,qh,qg,SO.hasSl,List.all_map,qi,SV.cells,Function.comp_def];done)))|((refine qk (kE x d (k0 (by assumption) (by assumption)) (hd.len (by omega))) rfl rfl ?_ rfl ?_);(focus first|exact .inl rfl|exact .inr rfl|(refine .inr ?_;simp [qo,qm,qh,qg,SO.hasSl,List.all_map,qi,SV.cells,Function.comp_def];done))))|((with_reducible refine eK ?_);first|(with_reducible first|refine qT ?_|refine qU ?_)|((with_reducible refine qr ?_ ?_)<;>intro h))|((with_reducible refine eO ?_);first|refine qe rfl ?_|(refine qB rfl ?_ ?_<;>intro h<;>try (exfalso;simp_all;done))|refine qb rfl ?_|(refine qF rfl ?_ rfl ?_;(focus omega))|(refine qt rfl ?_ rfl ?_ ?_;(focus omega);(all_goals intro h)))|((with_reducible refine eD ?_);first|refine qe rfl ?_|refine qb rfl ?_|((with_reducible refine qC ?_ ?_)<;>intro h))|refine qq rfl ?_)
  all_goals first
    | rfl
    | (exfalso; have := k2 (by omega); omega)
    | (exfalso; have := congrArg List.length (k3 (by omega)).1; simp_all; done)
    | trace_state
end Go.Proofs.Ytfjbclgbpdlkgaa
