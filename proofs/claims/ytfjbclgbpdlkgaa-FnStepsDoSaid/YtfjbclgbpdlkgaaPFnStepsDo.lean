/- The law FnStepsDo, in S: S says yes, whatever the bytes. -/
import Derived.Test.YtfjbclgbpdlkgaaV59
namespace Go.Proofs.Ytfjbclgbpdlkgaa
open Go
set_option linter.unusedVariables false
set_option linter.unusedSimpArgs false
set_option maxHeartbeats 40000000
set_option maxRecDepth 100000
theorem is_yes : ∀ x os, Is (.v (.bool true)) [] x os → qk5 x os := by
  rintro x os ⟨rfl, rfl⟩; rfl
theorem qfP {d : TDisk} (h : diskTrue d = true) : q7 d = true := by
  unfold diskTrue at h
  simp only [Bool.and_eq_true] at h
  exact h.1.1
theorem Jr (d : TDisk) (hd : SDisk d) (h1 : q7 d = true) (s : List TPkg) (hs : s.length ≤ 9) (hsm : kh s) (hsp : zo s = true) (M : List TStep) (hl : M.length ≤ 9) (hts : ∀ t, t ∈ M → wd t) (h3 : z9 M = true) (hfin : M.foldl doP d = yb s) :
    ∀ i : Nat, i ≤ M.length → ∀ (e : TDisk) (k : Int) (c : Nat), k = i → e = Qf d M i →
    Ev (fun n => Kh (qd prg n) (n + 1) 0 (n + 1 - c) [.sl 4 (s.map zh), .sl 4 (M.map zc), .ptr 0 0, iI k] [.box [.sl 4 (e.db.map zh), .sl 1 (e.files.map iI), bB e.has, .sl 4 (e.jour.map zh)]]) (Is (.v (.bool true)) []) := by
  refine zC ?_
  intro i hi ih e k c hk he
  subst hk
  have h6 := zD h1
  have hLe : DLen e := by rw [he]; exact (qfM hd hts i).len (by rw [wy]; omega)
  have hoe : q7 e = true := by rw [he]; exact WB h1 h3 i
  have hend : ¬ i < M.length → diskTrue e = true ∧ e.db = s := fun h => by
    rw [he, QT (by omega), hfin]
    exact ⟨(YQ hsp).2, rfl⟩
  have hdo : i < M.length → Ex (fun m => qd prg m 24 [qR e, zc (nth M (Int.toNat (i : Int)))] []) (.tup [qR (doP e (nth M i)), bB true]) [] := fun h => y2 e (nth M i) hLe (hts _ (zX h)).len hoe (kl.1 h3 _ (zX h))
  have hA : i < M.length → doP e (nth M i) = Qf d M (i + 1) := fun h => by rw [he, jH h]
  (refine qjx _ ?_; unfold Xr)
  repeat' (first|((with_reducible refine eG ?_);first|(with_reducible first|refine qX ?_|refine qY ?_|refine qZ ?_|refine q4 ?_|refine zm ?_)|refine qe rfl ?_|refine qb rfl ?_|((with_reducible refine zn ?_ ?_)<;>intro h))|((with_reducible refine eB ?_);first|((with_reducible refine zf ?_ ?_)<;>intro h<;>try (exfalso;omega))|((with_reducible refine zi ?_ ?_);· omega)|refine qe rfl ?_|refine qb rfl ?_)|((with_reducible refine eL ?_);first|((with_reducible refine qI ?_ ?_);· rfl)|refine qy rfl rfl ?_|refine qG rfl rfl ?_|refine qz rfl rfl rfl ?_|refine qJ rfl rfl ?_|refine qH rfl rfl ?_|refine qK rfl ?_|refine qe rfl ?_|refine qb rfl ?_)|((with_reducible refine eI ?_);first|((with_reducible refine q5 ?_ ?_ ?_);(·rfl);· omega)|(refine qN rfl rfl ?_ ?_;(·first|omega|(simp only [List.length_cons,List.length_nil,List.length_map,List.length_append];omega)))|(refine qO rfl rfl ?_ ?_;(focus omega))|((with_reducible refine q9 ?_ ?_ ?_);(·rfl);· omega)|(refine qS rfl rfl ?_ ?_;(·first|omega|(simp only [List.length_cons,List.length_nil,List.length_map,List.length_append];omega)))|(refine qW rfl rfl ?_ ?_;(focus omega))|refine qe rfl ?_|refine qb rfl ?_)|((with_reducible refine eC ?_);first|((refine qk (hdo (by omega)) rfl rfl ?_ rfl ?_);(focus first|exact .inl rfl|exact .inr rfl|(refine .inr ?_;simp [qo,qm,qh,qg,SO.hasSl,List.all_map,qi,SV.cells,Function.comp_def];done)))|((refine zT (yW e hLe) rfl rfl ?_ rfl rfl ?_ ?_);(focus first|exact .inl rfl|exact .inr rfl|(refine .inr ?_;simp [qo,qm,qh,qg,SO.hasSl,List.all_map,qi,SV.cells,Function.comp_def];done));(all_goals (intro h));(all_goals (try (exfalso;simp_all;done))))|((refine qk (Qi e.db s (hend (by omega)).2 (by omega) (zK hsm)) rfl rfl ?_ rfl ?_);(focus first|exact .inl rfl|exact .inr rfl|(refine .inr ?_;simp [qo,qm,qh,qg,SO.hasSl,List.all_map,qi,SV.cells,Function.comp_def];done))))|((with_reducible refine eK ?_);first|(with_reducible first|refine qT ?_|refine qU ?_)|((with_reducible refine qr ?_ ?_)<;>intro h))|((with_reducible refine eO ?_);first|refine qe rfl ?_|(refine qB rfl ?_ ?_<;>intro h<;>try (exfalso;simp_all;done))|refine qb rfl ?_|(refine qF rfl ?_ rfl ?_;(focus omega))|(refine qt rfl ?_ rfl ?_ ?_;(focus omega);(all_goals intro h)))|((with_reducible refine eD ?_);first|refine qe rfl ?_|refine qb rfl ?_|((with_reducible refine qC ?_ ?_)<;>intro h))|((with_reducible refine zg ?_ ?_);· intro _;rfl)|((with_reducible refine eH ?_);first|refine zA rfl ?_)|((with_reducible refine qjy ?_);(unfold Xs))|(with_reducible first|refine XO ?_|refine qeq ?_)|(with_reducible refine ku ?_ ?_)|((with_reducible refine ih ?_ _ _ _ ?_ (hA (by omega)))<;>(first|omega|assumption|(simp only [*,List.map_append,List.length_append,List.length_cons,List.length_nil,List.map_cons,List.map_nil];done)|(simp_all;done)|(simp_all;omega)))|refine qq rfl ?_)
  all_goals first
    | exact ⟨rfl, rfl⟩
    | (exfalso; have := (hend (by omega)).1; simp_all; done)
    | trace_state
theorem pureFnStepsDo : ∀ l : List Int, l.length ≤ 140737488351232 → (∀ x ∈ l, (Lit.int .u8 x).wf = true) → ∃ n los, qd prg n 13 [.sl 1 (l.map bI)] [] = some (.v (.bool true), los) := by
  intro l hlen hw
  refine wM ?_
  (refine U13 (nl := 0) rfl ?_; unfold B13)
  repeat' (first|((with_reducible refine eG ?_);first|(with_reducible first|refine qX ?_|refine qY ?_|refine qZ ?_|refine q4 ?_|refine zm ?_)|refine qe rfl ?_|refine qb rfl ?_|((with_reducible refine zn ?_ ?_)<;>intro h))|((with_reducible refine eB ?_);first|((with_reducible first|refine ka ?_ ?_|refine zr ?_ ?_|refine kb ?_ ?_)<;>intro h<;>try (exfalso;omega))|refine qe rfl ?_|refine qb rfl ?_)|((with_reducible refine eL ?_);first|((with_reducible refine qI ?_ ?_);· rfl)|refine qy rfl rfl ?_|refine qG rfl rfl ?_|refine qz rfl rfl rfl ?_|refine qJ rfl rfl ?_|refine qH rfl rfl ?_|refine qK rfl ?_|refine qe rfl ?_|refine qb rfl ?_)|((with_reducible refine eC ?_);first|((refine zk (xw l (kW hw)) rfl rfl ?_);((rintro _ _ ⟨d,s,rfl,rfl,hd,hf,hsl,hsm⟩)<;>(((obtain ⟨M,hM,hMl,hMs,m1,m2⟩ := KN d s hd hsl hsm);(have hMI := QB d s (hd.len (yd hf)) (by omega) (zK hsm));(have hMS := QA d s (hd.len (yd hf)) (by omega) (zK hsm));(rw [← hM] at hMI hMS);(by_cases hg : diskTrue d = true ∧ zo s = true);(have hG := fun (hg : diskTrue d = true ∧ zo s = true) (c : Nat) => ZL (Jr d hd (qfP hg.1) s hsl hsm hg.2 M hMl hMs (by rw [m2 hg];exact qhE hg.2) (by rw [m2 hg];exact qcf (zD (qfP hg.1))) 0 (Nat.zero_le _) d 0 c rfl rfl) is_yes)))<;>(first|(refine zF ?_ rfl ?_;(focus first|exact .inl rfl|exact .inr rfl|(refine .inr ?_;simp [qo,qm,qh,qg,SO.hasSl,List.all_map,qi,SV.cells,Function.comp_def];done)))|(refine zl ?_ rfl ?_;(focus first|rfl|(simp [qo,qm,qh,qg,SO.hasSl,List.all_map,qi,SV.cells,Function.comp_def];done))))))|((refine qk (hMI ..) rfl rfl ?_ rfl ?_);(focus first|exact .inl rfl|exact .inr rfl|(refine .inr ?_;simp [qo,qm,qh,qg,SO.hasSl,List.all_map,qi,SV.cells,Function.comp_def];done)))|((refine qk (hMS ..) rfl rfl ?_ rfl ?_);(focus first|exact .inl rfl|exact .inr rfl|(refine .inr ?_;simp [qo,qm,qh,qg,SO.hasSl,List.all_map,qi,SV.cells,Function.comp_def];done))))|((with_reducible refine eK ?_);first|(with_reducible first|refine qT ?_|refine qU ?_)|((with_reducible refine qr ?_ ?_)<;>intro h))|((with_reducible refine eO ?_);first|refine qe rfl ?_|(refine qB rfl ?_ ?_<;>intro h<;>try (exfalso;simp_all;done))|refine qb rfl ?_|(refine qF rfl ?_ rfl ?_;(focus omega))|(refine qt rfl ?_ rfl ?_ ?_;(focus omega);(all_goals intro h)))|((with_reducible refine eD ?_);first|refine qe rfl ?_|refine qb rfl ?_|((with_reducible refine qC ?_ ?_)<;>intro h))|((with_reducible refine eH ?_);first|refine zA rfl ?_)|(with_reducible exact hG hg _)|(exfalso;have := congrArg List.length (m1 (by assumption));simp only [List.length_nil] at this;omega)|(with_reducible first|refine XO ?_|refine qeq ?_)|refine qq rfl ?_)
  all_goals first
    | rfl
    | trace_state
end Go.Proofs.Ytfjbclgbpdlkgaa
