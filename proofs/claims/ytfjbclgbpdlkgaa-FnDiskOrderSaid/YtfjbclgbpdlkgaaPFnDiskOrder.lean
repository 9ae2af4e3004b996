/- The law FnDiskOrder, in S: S says yes, whatever the bytes. -/
import Derived.Test.YtfjbclgbpdlkgaaV59
namespace Go.Proofs.Ytfjbclgbpdlkgaa
open Go
set_option linter.unusedVariables false
set_option linter.unusedSimpArgs false
set_option maxHeartbeats 40000000
set_option maxRecDepth 100000
def oth (r : Int) : TStep := ⟨2, r, 3, []⟩
theorem qfJ {r : Int} (h : 0 ≤ r ∧ r < 6) : zO (oth r) = true := wX.2 (.inr (.inl ⟨rfl, by unfold oth; dsimp only; omega, by unfold oth; dsimp only; omega, rfl⟩))
theorem qhK (r : Int) : wd (oth r) := ⟨Nat.zero_le _, ko⟩
theorem Jo (d : TDisk) (t : TStep) (hd : SDisk d) (hf : d.files.length ≤ 6) (hts : wd t) :
    (∃ y, DLen y ∧ Ex (fun m => qd prg m 23 [qR d, zc t] []) (.tup [qR y, bB true]) [] ∧ Ex (fun m => qd prg m 24 [qR d, zc t] []) (.tup [qR y, bB true]) [] ∧
      (∀ r, 0 ≤ r ∧ r < 6 → Ex (fun m => qd prg m 24 [qR y, .ag [iI 2, iI r, iI 3, .sl 4 []]] []) (.tup [qR (doP y (oth r)), bB true]) []) ∧
      (∀ r, 0 ≤ r ∧ r < 6 → Ex (fun m => qd prg m 24 [qR d, .ag [iI 2, iI r, iI 3, .sl 4 []]] []) (.tup [qR (doP d (oth r)), bB true]) []) ∧
      (∀ r, 0 ≤ r ∧ r < 6 → Ex (fun m => qd prg m 24 [qR (doP d (oth r)), zc t] []) (.tup [qR (doP (doP d (oth r)) t), bB true]) []) ∧
      (∀ r, 0 ≤ r ∧ r < 6 → DLen (doP d (oth r)) ∧ DLen (doP (doP d (oth r)) t)) ∧
      (∀ r, t.kind = 2 → t.path = r → doP y (oth r) = doP d (oth r)) ∧
      (∀ r, 0 ≤ r ∧ r < 6 → t.kind ≠ 1 → t.kind ≠ 4 → ¬ (t.kind = 2 ∧ t.path = r) → doP y (oth r) = doP (doP d (oth r)) t))
    ∨ (Ex (fun m => qd prg m 23 [qR d, zc t] []) (.tup [qR kw, bB false]) [] ∧ Ex (fun m => qd prg m 24 [qR d, zc t] []) (.tup [qR kw, bB false]) []) := by
  rcases WE d t hd hf hts with ⟨y, hy, hS, hI⟩ | h
  · obtain ⟨rfl, h1, h2, h3, h4, h5, h6⟩ := hy
    have hD : ∀ r, 0 ≤ r ∧ r < 6 → Gone d (oth r) (doP d (oth r)) := fun r hr => qau d (oth r) hd (qhK r) h1 (qfJ hr)
    have hE : ∀ r, 0 ≤ r ∧ r < 6 → Gone (doP d (oth r)) t (doP (doP d (oth r)) t) := fun r hr => qau _ t (qhB hd (qhK r)) hts (hD r hr).ok h2
    exact .inl ⟨_, h4, hS, hI, fun r hr => y2 _ (oth r) h4 (qhK r).len h3 (qfJ hr), fun r hr => y2 d (oth r) (hd.len (by omega)) (qhK r).len h1 (qfJ hr),
      fun r hr => y2 _ t (hD r hr).len hts.len (hD r hr).ok h2, fun r hr => ⟨(hD r hr).len, (hE r hr).len⟩, fun r k1 k2 => qhI ⟨k1, k2⟩, fun r hr k1 k4 k2 => qhH h2 k1 k4 hr.1 k2⟩
  · exact .inr h.2
theorem pureFnDiskOrder : ∀ l : List Int, l.length ≤ 140737488351232 → (∀ x ∈ l, (Lit.int .u8 x).wf = true) → ∀ m : List Int, m.length ≤ 140737488351232 → (∀ x ∈ m, (Lit.int .u8 x).wf = true) → ∃ n los, qd prg n 5 [.sl 1 (l.map bI), .sl 1 (m.map bI)] [] = some (.v (.bool true), los) := by
  intro l hlen hw m hlen2 hw2
  refine wM ?_
  (refine U5 (nl := 0) rfl ?_; unfold B5)
  repeat' (first|((with_reducible refine eG ?_);first|(with_reducible first|refine qX ?_|refine qY ?_|refine qZ ?_|refine q4 ?_|refine zm ?_)|refine qe rfl ?_|refine qb rfl ?_|((with_reducible refine zn ?_ ?_)<;>intro h))|((with_reducible refine eB ?_);first|((with_reducible first|refine ka ?_ ?_|refine zr ?_ ?_|refine kb ?_ ?_)<;>intro h<;>try (exfalso;omega))|((with_reducible refine jx ?_ ?_);(·omega);intro x hx hx0 hx1)|refine qe rfl ?_|refine qb rfl ?_)|((with_reducible refine eL ?_);first|((with_reducible refine qI ?_ ?_);· rfl)|refine qy rfl rfl ?_|refine qG rfl rfl ?_|refine qz rfl rfl rfl ?_|refine qJ rfl rfl ?_|refine qH rfl rfl ?_|refine qK rfl ?_|refine qe rfl ?_|refine qb rfl ?_)|((with_reducible refine eC ?_);first|((refine zk (yq l (kW hw)) rfl rfl ?_);((rintro _ _ ⟨d,t,rfl,rfl,hd,hf,hts⟩)<;>((rcases Jo d t hd hf hts with ⟨y,hL,hS,hI,hA,hB,hC,hLL,hov,hsw⟩|⟨hS,hI⟩))<;>(first|(refine zF ?_ rfl ?_;(focus first|exact .inl rfl|exact .inr rfl|(refine .inr ?_;simp [qo,qm,qh,qg,SO.hasSl,List.all_map,qi,SV.cells,Function.comp_def];done)))|(refine zl ?_ rfl ?_;(focus first|rfl|(simp [qo,qm,qh,qg,SO.hasSl,List.all_map,qi,SV.cells,Function.comp_def];done))))))|((refine qk (hS ..) rfl rfl ?_ rfl ?_);(focus first|exact .inl rfl|exact .inr rfl|(refine .inr ?_;simp [qo,qm,qh,qg,SO.hasSl,List.all_map,qi,SV.cells,Function.comp_def];done)))|((refine qk (hI ..) rfl rfl ?_ rfl ?_);(focus first|exact .inl rfl|exact .inr rfl|(refine .inr ?_;simp [qo,qm,qh,qg,SO.hasSl,List.all_map,qi,SV.cells,Function.comp_def];done)))|((refine qk (kE kw kw rfl qci) rfl rfl ?_ rfl ?_);(focus first|exact .inl rfl|exact .inr rfl|(refine .inr ?_;simp [qo,qm,qh,qg,SO.hasSl,List.all_map,qi,SV.cells,Function.comp_def];done)))|((refine qk (kE y y rfl hL) rfl rfl ?_ rfl ?_);(focus first|exact .inl rfl|exact .inr rfl|(refine .inr ?_;simp [qo,qm,qh,qg,SO.hasSl,List.all_map,qi,SV.cells,Function.comp_def];done)))|((refine wT (hA _ (by omega)) rfl rfl ?_ rfl ?_);(·first|rfl|(simp [qo,qm,qh,qg,SO.hasSl,List.all_map,qi,SV.cells,Function.comp_def];done)))|((refine wT (hB _ (by omega)) rfl rfl ?_ rfl ?_);(·first|rfl|(simp [qo,qm,qh,qg,SO.hasSl,List.all_map,qi,SV.cells,Function.comp_def];done)))|((refine qk (hC _ (by omega)) rfl rfl ?_ rfl ?_);(focus first|exact .inl rfl|exact .inr rfl|(refine .inr ?_;simp [qo,qm,qh,qg,SO.hasSl,List.all_map,qi,SV.cells,Function.comp_def];done)))|((refine qk (kE _ _ (hov _ (by assumption) (by assumption)) (hLL _ (by omega)).1) rfl rfl ?_ rfl ?_);(focus first|exact .inl rfl|exact .inr rfl|(refine .inr ?_;simp [qo,qm,qh,qg,SO.hasSl,List.all_map,qi,SV.cells,Function.comp_def];done)))|((refine qk (kE _ _ (hsw _ (by omega) (by omega) (by omega) (by omega)) (hLL _ (by omega)).2) rfl rfl ?_ rfl ?_);(focus first|exact .inl rfl|exact .inr rfl|(refine .inr ?_;simp [qo,qm,qh,qg,SO.hasSl,List.all_map,qi,SV.cells,Function.comp_def];done))))|((with_reducible refine eK ?_);first|(with_reducible first|refine qT ?_|refine qU ?_)|((with_reducible refine qr ?_ ?_)<;>intro h))|((with_reducible refine eO ?_);first|refine qe rfl ?_|(refine qB rfl ?_ ?_<;>intro h<;>try (exfalso;simp_all;done))|refine qb rfl ?_|(refine qF rfl ?_ rfl ?_;(focus omega))|(refine qt rfl ?_ rfl ?_ ?_;(focus omega);(all_goals intro h)))|((with_reducible refine eD ?_);first|refine qe rfl ?_|refine qb rfl ?_|((with_reducible refine qC ?_ ?_)<;>intro h))|refine qq rfl ?_)
  all_goals first
    | rfl
    | trace_state
end Go.Proofs.Ytfjbclgbpdlkgaa
