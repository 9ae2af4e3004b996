/- The law FnDiskBad, in S: S says yes, whatever the bytes. -/
import Derived.Test.YtfjbclgbpdlkgaaV59
namespace Go.Proofs.Ytfjbclgbpdlkgaa
open Go
set_option linter.unusedVariables false
set_option linter.unusedSimpArgs false
set_option maxHeartbeats 40000000
set_option maxRecDepth 100000
theorem qhL : zO ⟨5, 0, 0, []⟩ = false := by decide
theorem qlt : zO ⟨2, 6, 0, []⟩ = false := by decide
def ZO : TPkg := ⟨1, 1, [], [⟨2, 1⟩]⟩
theorem qlu : zO ⟨3, 0, 0, [ZO]⟩ = false := by
  have : zo [ZO] = false := by decide
  cases h : zO ⟨3, 0, 0, [ZO]⟩
  · rfl
  · rcases QG h with ⟨k, -⟩ | ⟨k, -⟩ | ⟨-, k⟩ | k
    · cases k
    · cases k
    · rw [this] at k; cases k
    · cases k
theorem qiJ {d : TDisk} {t : TStep} (h : zO t = false) : Qz d t = (kw, false) := if_neg fun h9 => by rw [h] at h9; cases h9.2
theorem qhM {d : TDisk} {t : TStep} (h : zO t = false) : yk d t = (kw, false) := if_neg fun h9 => by rw [h] at h9; cases h9.2
theorem bad_S : wd ⟨3, 0, 0, [ZO]⟩ := ⟨by decide, fun p hp => by obtain rfl := List.mem_singleton.1 hp; unfold ZT ZO; decide⟩
theorem qlv (d : TDisk) (hL : DLen d) : Ex (fun m => qd prg m 24 [qR d, .ag [iI 5, iI 0, iI 0, .sl 4 []]] []) (.tup [qR kw, bB false]) [] ∧ Ex (fun m => qd prg m 28 [qR d, .ag [iI 2, iI 6, iI 0, .sl 4 []]] []) (.tup [qR kw, bB false]) []
    ∧ Ex (fun m => qd prg m 24 [qR d, .ag [iI 3, iI 0, iI 0, .sl 4 [zh ZO]]] []) (.tup [qR kw, bB false]) [] := by
  have h1 := jI d ⟨5, 0, 0, []⟩ hL ⟨Nat.zero_le _, jK⟩
  have h2 := ja d ⟨2, 6, 0, []⟩ hL ⟨Nat.zero_le _, jK⟩
  have h3 := jI d ⟨3, 0, 0, [ZO]⟩ hL bad_S.len
  rw [qiJ qhL] at h1
  rw [qhM qlt] at h2
  rw [qiJ qlu] at h3
  exact ⟨h1, h2, h3⟩
theorem qfK (d : TDisk) (t : TStep) (hd : SDisk d) (hf : d.files.length ≤ 6) (hts : wd t) :
    ∃ y z b, DLen y ∧ Ex (fun m => qd prg m 23 [qR d, zc t] []) (.tup [qR y, bB b]) [] ∧ Ex (fun m => qd prg m 24 [qR d, zc t] []) (.tup [qR y, bB b]) [] ∧ Ex (fun m => qd prg m 28 [qR d, zc t] []) (.tup [qR z, bB b]) [] := by
  rcases WE d t hd hf hts with ⟨y, hy, hS, hI⟩ | ⟨hn, hS, hI⟩
  · rcases Qk d t hd hf hts with ⟨z, -, -, -, -, -, -, -, -, -, hT⟩ | ⟨hn, -⟩
    · exact ⟨y, z, true, hy.len, hS, hI, hT⟩
    · exact absurd ⟨hy.dok, hy.tok⟩ hn
  · rcases Qk d t hd hf hts with ⟨z, -, h1, h2, -⟩ | ⟨-, -, hT⟩
    · exact absurd ⟨h1, h2⟩ hn
    · exact ⟨kw, kw, false, qci, hS, hI, hT⟩
theorem pureFnDiskBad : ∀ l : List Int, l.length ≤ 140737488351232 → (∀ x ∈ l, (Lit.int .u8 x).wf = true) → ∃ n los, qd prg n 6 [.sl 1 (l.map bI)] [] = some (.v (.bool true), los) := by
  intro l hlen hw
  refine wM ?_
  (refine U6 (nl := 0) rfl ?_; unfold B6)
  repeat' (first|((with_reducible refine eG ?_);first|(with_reducible first|refine qX ?_|refine qY ?_|refine qZ ?_|refine q4 ?_|refine zm ?_)|refine qe rfl ?_|refine qb rfl ?_|((with_reducible refine zn ?_ ?_)<;>intro h))|((with_reducible refine eB ?_);first|((with_reducible first|refine ka ?_ ?_|refine zr ?_ ?_|refine kb ?_ ?_)<;>intro h<;>try (exfalso;omega))|refine qe rfl ?_|refine qb rfl ?_)|((with_reducible refine eL ?_);first|((with_reducible refine qI ?_ ?_);· rfl)|refine qy rfl rfl ?_|refine qG rfl rfl ?_|refine qz rfl rfl rfl ?_|refine qJ rfl rfl ?_|refine qH rfl rfl ?_|refine qK rfl ?_|refine qe rfl ?_|refine qb rfl ?_)|((with_reducible refine eC ?_);first|((refine zk (yq l (kW hw)) rfl rfl ?_);((rintro _ _ ⟨d,t,rfl,rfl,hd,hf,hts⟩)<;>(((obtain ⟨y,z,b,hL,hS,hI,hT⟩ := qfK d t hd hf hts);(obtain ⟨hA,hB,hC⟩ := qlv d (hd.len (by omega)));(rcases b with _|_)))<;>(first|(refine zF ?_ rfl ?_;(focus first|exact .inl rfl|exact .inr rfl|(refine .inr ?_;simp [qo,qm,qh,qg,SO.hasSl,List.all_map,qi,SV.cells,Function.comp_def];done)))|(refine zl ?_ rfl ?_;(focus first|rfl|(simp [qo,qm,qh,qg,SO.hasSl,List.all_map,qi,SV.cells,Function.comp_def];done))))))|((refine qk (hS ..) rfl rfl ?_ rfl ?_);(focus first|exact .inl rfl|exact .inr rfl|(refine .inr ?_;simp [qo,qm,qh,qg,SO.hasSl,List.all_map,qi,SV.cells,Function.comp_def];done)))|((refine qk (hI ..) rfl rfl ?_ rfl ?_);(focus first|exact .inl rfl|exact .inr rfl|(refine .inr ?_;simp [qo,qm,qh,qg,SO.hasSl,List.all_map,qi,SV.cells,Function.comp_def];done)))|((refine qk (hT ..) rfl rfl ?_ rfl ?_);(focus first|exact .inl rfl|exact .inr rfl|(refine .inr ?_;simp [qo,qm,qh,qg,SO.hasSl,List.all_map,qi,SV.cells,Function.comp_def];done)))|((refine wT (hA ..) rfl rfl ?_ rfl ?_);(·first|rfl|(simp [qo,qm,qh,qg,SO.hasSl,List.all_map,qi,SV.cells,Function.comp_def];done)))|((refine wT (hB ..) rfl rfl ?_ rfl ?_);(·first|rfl|(simp [qo,qm,qh,qg,SO.hasSl,List.all_map,qi,SV.cells,Function.comp_def];done)))|((refine wT (hC ..) rfl rfl ?_ rfl ?_);(·first|rfl|(simp [qo,qm,qh,qg,SO.hasSl,List.all_map,qi,SV.cells,Function.comp_def];done)))|((refine qk (kE y y rfl hL) rfl rfl ?_ rfl ?_);(focus first|exact .inl rfl|exact .inr rfl|(refine .inr ?_;simp [qo,qm,qh,qg,SO.hasSl,List.all_map,qi,SV.cells,Function.comp_def];done)))|((refine zT (kN d (hd.len (by omega))) rfl rfl ?_ rfl rfl ?_ ?_);(focus first|exact .inl rfl|exact .inr rfl|(refine .inr ?_;simp [qo,qm,qh,qg,SO.hasSl,List.all_map,qi,SV.cells,Function.comp_def];done));(all_goals (intro h));(all_goals (try (exfalso;simp_all;done)))))|((with_reducible refine eK ?_);first|(with_reducible first|refine qT ?_|refine qU ?_)|((with_reducible refine qr ?_ ?_)<;>intro h))|((with_reducible refine eO ?_);first|refine qe rfl ?_|(refine qB rfl ?_ ?_<;>intro h<;>try (exfalso;simp_all;done))|refine qb rfl ?_|(refine qF rfl ?_ rfl ?_;(focus omega))|(refine qt rfl ?_ rfl ?_ ?_;(focus omega);(all_goals intro h))|(refine zP rfl rfl rfl ?_ ?_ ?_;(·simp);(·first|omega|(simp only [List.length_cons,List.length_nil,List.length_map,List.length_append];omega));intro w))|((with_reducible refine eD ?_);first|refine qe rfl ?_|refine qb rfl ?_|((with_reducible refine qC ?_ ?_)<;>intro h))|refine qq rfl ?_)
  all_goals first
    | rfl
    | trace_state
end Go.Proofs.Ytfjbclgbpdlkgaa
