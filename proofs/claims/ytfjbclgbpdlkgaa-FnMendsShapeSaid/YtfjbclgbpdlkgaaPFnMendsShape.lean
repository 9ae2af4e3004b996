/- The law FnMendsShape, in S: S says yes, whatever the bytes. -/
import Derived.Test.YtfjbclgbpdlkgaaV59
namespace Go.Proofs.Ytfjbclgbpdlkgaa
open Go
set_option linter.unusedVariables false
set_option linter.unusedSimpArgs false
set_option maxHeartbeats 40000000
set_option maxRecDepth 100000
theorem ZX (d : TDisk) (hd : SDisk d) (h6 : d.files.length = 6) (M : List TStep) (w : List Int) (hw : w.length = 6) (h2 : 2 ≤ M.length) (hl : M.length ≤ 8)
    (hm : ∀ i : Nat, i + 2 < M.length → (nth M i).kind = 2 ∧ (0 ≤ (nth M i).path ∧ (nth M i).path < 6) ∧ nth w (nth M i).path.toNat = (nth M i).data ∧ nth d.files (nth M i).path.toNat ≠ (nth M i).data)
    (hz : (nth M ((M.length : Int) - 2).toNat).kind = 3 ∧ (nth M ((M.length : Int) - 2).toNat).pkgs = d.jour ∧ (nth M ((M.length : Int) - 1).toNat).kind = 4) : ∀ i : Nat, i ≤ M.length - 2 → ∀ (k : Int) (c : Nat), k = i →
    Ev (fun n => qaR (qd prg n) (n + 1) 0 (n + 1 - c) (.ptr 3 0) (.sl 4 (M.map zc)) (iI M.length) (.osl 4) (iI k)
        [.arr false 4 [], .arr false 1 [], .arr false 4 [], .box [.sl 4 (d.db.map zh), .sl 1 (d.files.map iI), bB d.has, .sl 4 (d.jour.map zh)], .arr false 1 (w.map iI)]) qk5 := by
  refine zC ?_
  intro i hi ih k c hk
  subst hk
  have hmi := hm i
  obtain ⟨z1, z2, z3⟩ := hz
  (refine UL8_11 ?_; unfold qdx)
  repeat' (first|((with_reducible refine eG ?_);first|(with_reducible first|refine qX ?_|refine qY ?_|refine qZ ?_|refine q4 ?_|refine zm ?_)|refine qe rfl ?_|refine qb rfl ?_|((with_reducible refine zn ?_ ?_)<;>intro h))|((with_reducible refine eB ?_);first|((with_reducible first|refine zf ?_ ?_|refine wk ?_ ?_|refine zr ?_ ?_|refine kb ?_ ?_)<;>intro h<;>try (exfalso;omega))|((with_reducible first|refine zi ?_ ?_|refine kG ?_ ?_);· omega)|refine qe rfl ?_|refine qb rfl ?_)|((with_reducible refine eI ?_);first|((with_reducible refine q5 ?_ ?_ ?_);(·rfl);· omega)|(refine qN rfl rfl ?_ ?_;(·first|omega|(simp only [List.length_cons,List.length_nil,List.length_map,List.length_append];omega)))|(refine qO rfl rfl ?_ ?_;(focus omega))|((with_reducible refine q9 ?_ ?_ ?_);(·rfl);· omega)|(refine qS rfl rfl ?_ ?_;(·first|omega|(simp only [List.length_cons,List.length_nil,List.length_map,List.length_append];omega)))|(refine qW rfl rfl ?_ ?_;(focus omega))|refine qe rfl ?_|refine qb rfl ?_)|((with_reducible refine eC ?_);first|((refine qk (Qi _ d.jour z2 (Nat.le_trans hd.jl (by decide)) (zK hd.js)) rfl rfl ?_ rfl ?_);(focus first|exact .inl rfl|exact .inr rfl|(refine .inr ?_;simp [qo,qm,qh,qg,SO.hasSl,List.all_map,qi,SV.cells,Function.comp_def];done))))|((with_reducible refine eK ?_);first|(with_reducible first|refine qT ?_|refine qU ?_)|((with_reducible refine qr ?_ ?_)<;>intro h))|((with_reducible refine eO ?_);first|refine qe rfl ?_|(refine qB rfl ?_ ?_<;>intro h<;>try (exfalso;simp_all;done))|refine qb rfl ?_|(refine qF rfl ?_ rfl ?_;(focus omega))|(refine qt rfl ?_ rfl ?_ ?_;(focus omega);(all_goals intro h)))|((with_reducible refine eD ?_);first|refine qe rfl ?_|refine qb rfl ?_|((with_reducible refine qC ?_ ?_)<;>intro h))|((with_reducible refine ih ?_ _ _ ?_)<;>(first|omega|assumption|(simp only [*,List.map_append,List.length_append,List.length_cons,List.length_nil,List.map_cons,List.map_nil];done)|(simp_all;done)|(simp_all;omega)))|refine qq rfl ?_)
  all_goals first
    | rfl
    | (exfalso; omega)
    | (exfalso; exact (hmi (by omega)).2.2.2 (by assumption))
    | (exfalso; exact absurd (hmi (by omega)).2.2.1 (by assumption))
    | trace_state
theorem pureFnMendsShape : ∀ l : List Int, l.length ≤ 140737488351232 → (∀ x ∈ l, (Lit.int .u8 x).wf = true) → ∃ n los, qd prg n 8 [.sl 1 (l.map bI)] [] = some (.v (.bool true), los) := by
  intro l hlen hw
  refine wM ?_
  (refine U8 (nl := 0) rfl ?_; unfold B8)
  repeat' (first|((with_reducible refine eG ?_);first|(with_reducible first|refine qX ?_|refine qY ?_|refine qZ ?_|refine q4 ?_|refine zm ?_)|refine qe rfl ?_|refine qb rfl ?_|((with_reducible refine zn ?_ ?_)<;>intro h))|((with_reducible refine eB ?_);first|((with_reducible first|refine ka ?_ ?_|refine zr ?_ ?_|refine kb ?_ ?_)<;>intro h<;>try (exfalso;omega))|refine qe rfl ?_|refine qb rfl ?_)|((with_reducible refine eL ?_);first|((with_reducible refine qI ?_ ?_);· rfl)|refine qy rfl rfl ?_|refine qG rfl rfl ?_|refine qz rfl rfl rfl ?_|refine qJ rfl rfl ?_|refine qH rfl rfl ?_|refine qK rfl ?_|refine qe rfl ?_|refine qb rfl ?_)|((with_reducible refine eC ?_);first|((refine zk (ya l (kW hw)) rfl rfl ?_);((rintro _ _ ⟨d,rfl,rfl,hd,hf⟩)<;>(((obtain ⟨M,hM,hl,hMs,m1,m2,m3,m4⟩ := Ql d hd);(have hMI := kO d (hd.len (yd hf)));(have hMS := xu d (hd.len (yd hf)));(rw [← hM] at hMI hMS)))<;>(first|(refine zF ?_ rfl ?_;(focus first|exact .inl rfl|exact .inr rfl|(refine .inr ?_;simp [qo,qm,qh,qg,SO.hasSl,List.all_map,qi,SV.cells,Function.comp_def];done)))|(refine zl ?_ rfl ?_;(focus first|rfl|(simp [qo,qm,qh,qg,SO.hasSl,List.all_map,qi,SV.cells,Function.comp_def];done))))))|((refine qk (hMI ..) rfl rfl ?_ rfl ?_);(focus first|exact .inl rfl|exact .inr rfl|(refine .inr ?_;simp [qo,qm,qh,qg,SO.hasSl,List.all_map,qi,SV.cells,Function.comp_def];done)))|((refine qk (hMS ..) rfl rfl ?_ rfl ?_);(focus first|exact .inl rfl|exact .inr rfl|(refine .inr ?_;simp [qo,qm,qh,qg,SO.hasSl,List.all_map,qi,SV.cells,Function.comp_def];done)))|((refine zT (kN d (hd.len (by omega))) rfl rfl ?_ rfl rfl ?_ ?_);(focus first|exact .inl rfl|exact .inr rfl|(refine .inr ?_;simp [qo,qm,qh,qg,SO.hasSl,List.all_map,qi,SV.cells,Function.comp_def];done));(all_goals (intro h));(all_goals (try (exfalso;simp_all;done))))|((refine qk (wI d.jour (Nat.le_trans hd.jl (by decide)) (zK hd.js)) rfl rfl ?_ rfl ?_);(focus first|exact .inl rfl|exact .inr rfl|(refine .inr ?_;simp [qo,qm,qh,qg,SO.hasSl,List.all_map,qi,SV.cells,Function.comp_def];done))))|((with_reducible refine eK ?_);first|(with_reducible first|refine qT ?_|refine qU ?_)|((with_reducible refine qr ?_ ?_)<;>intro h))|((with_reducible refine eO ?_);first|refine qe rfl ?_|(refine qB rfl ?_ ?_<;>intro h<;>try (exfalso;simp_all;done))|refine qb rfl ?_|(refine qF rfl ?_ rfl ?_;(focus omega))|(refine qt rfl ?_ rfl ?_ ?_;(focus omega);(all_goals intro h)))|((with_reducible refine eD ?_);first|refine qe rfl ?_|refine qb rfl ?_|((with_reducible refine qC ?_ ?_)<;>intro h))|refine qq rfl ?_)
  all_goals first
    | rfl
    | (exfalso; have := congrArg List.length (m1 (by assumption)); simp only [List.length_nil] at this; omega)
    | (exfalso; have := congrArg List.length (m2 (by assumption)); simp only [List.length_nil] at this; omega)
    | skip
  rename_i hh1
  have hh2 := h
  have e1 : kM d.jour = zj d.jour := if_pos (zI.1 hh1).2.2.2.1
  rw [e1]
  have e2 := m4 hh1 hh2
  obtain ⟨t1, t2⟩ := YS (d := d) (s := d.jour)
  have t3 := yZ d d.jour
  have u1 : ((M.length : Int) - 2).toNat = M.length - 2 := by rw [e2]; omega
  have u2 : ((M.length : Int) - 1).toNat = M.length - 1 := by rw [e2]; omega
  refine ZX d hd (zD hh1) M (zj d.jour) (kv _) (by rw [e2]; omega) hl ?_ ?_ 0 (Nat.zero_le _) 0 0 rfl
  · intro i hi
    rw [e2] at hi ⊢
    exact qhN hi
  · rw [u1, u2, e2, t1, t2]
    exact ⟨rfl, rfl, rfl⟩
end Go.Proofs.Ytfjbclgbpdlkgaa
