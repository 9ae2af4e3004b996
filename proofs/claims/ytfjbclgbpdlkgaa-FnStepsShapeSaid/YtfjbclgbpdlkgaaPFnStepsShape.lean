/- The law FnStepsShape, in S: S says yes, whatever the bytes. -/
import Derived.Test.YtfjbclgbpdlkgaaV59
namespace Go.Proofs.Ytfjbclgbpdlkgaa
open Go
set_option linter.unusedVariables false
set_option linter.unusedSimpArgs false
set_option maxHeartbeats 40000000
set_option maxRecDepth 100000
theorem ZY (d : TDisk) (h6 : d.files.length = 6) (M : List TStep) (hl : M.length ≤ 9) (w : List Int) (hw : w.length = 6)
    (hat : ∀ i : Nat, i < 6 → nth w i ≠ nth d.files i → (zG w d.files i).length + 1 < M.length - 2 ∧ nth M ((zG w d.files i).length + 1) = ⟨2, i, nth w i, []⟩) (hz : M.length = (zG w d.files 6).length + 3) : ∀ i : Nat, i ≤ 6 → ∀ (kk k : Int) (c : Nat), k = i → kk = (zG w d.files i).length + 1 →
    Ev (fun n => Kd (qd prg n) (n + 1) 0 (n + 1 - c) (.ptr 3 0) (.sl 4 (M.map zc)) (iI M.length) (.osl 4) (iI kk) (iI k)
        [.arr false 4 [], .arr false 1 [], .arr false 4 [], .box [.sl 4 (d.db.map zh), .sl 1 (d.files.map iI), bB d.has, .sl 4 (d.jour.map zh)], .arr false 1 (w.map iI)]) qk5 := by
  refine zC ?_
  intro i hi ih kk k c hk hkk
  subst hk
  have hdl := Qe w d.files i
  have hy : i < 6 → nth w i ≠ nth d.files i → kk < (M.length : Int) - 2 ∧ (nth M kk.toNat).kind = 2 ∧ (nth M kk.toNat).path = i ∧ (nth M kk.toNat).data = nth w i := fun h h2 => by
    obtain ⟨a, b⟩ := hat i h h2
    have e : kk.toNat = (zG w d.files i).length + 1 := by omega
    rw [e, b]
    exact ⟨by omega, rfl, rfl, rfl⟩
  have hA : i < 6 → nth w i ≠ nth d.files i → kk + 1 = (zG w d.files (i + 1)).length + 1 := fun h h2 => by rw [wV h2, List.length_append, hkk]; simp
  have hB : i < 6 → nth w i = nth d.files i → kk = (zG w d.files (i + 1)).length + 1 := fun h h2 => by rw [xr h2, hkk]
  have hend : ¬ i < 6 → kk = (M.length : Int) - 2 := fun h => by
    obtain rfl : i = 6 := by omega
    omega
  (refine qjq ?_; unfold Xk)
  repeat' (first|((with_reducible refine eG ?_);first|(with_reducible first|refine qX ?_|refine qY ?_|refine qZ ?_|refine q4 ?_|refine zm ?_)|refine qe rfl ?_|refine qb rfl ?_|((with_reducible refine zn ?_ ?_)<;>intro h))|((with_reducible refine eB ?_);first|((with_reducible first|refine zf ?_ ?_|refine wk ?_ ?_|refine zr ?_ ?_|refine kb ?_ ?_)<;>intro h<;>try (exfalso;omega))|((with_reducible first|refine zi ?_ ?_|refine kG ?_ ?_);· omega)|refine qe rfl ?_|refine qb rfl ?_)|((with_reducible refine eL ?_);first|((with_reducible refine qI ?_ ?_);· rfl)|refine qy rfl rfl ?_|refine qG rfl rfl ?_|refine qz rfl rfl rfl ?_|refine qJ rfl rfl ?_|refine qH rfl rfl ?_|refine qK rfl ?_|refine qe rfl ?_|refine qb rfl ?_)|((with_reducible refine eI ?_);first|((with_reducible refine q5 ?_ ?_ ?_);(·rfl);· omega)|(refine qN rfl rfl ?_ ?_;(·first|omega|(simp only [List.length_cons,List.length_nil,List.length_map,List.length_append];omega)))|(refine qO rfl rfl ?_ ?_;(focus omega))|((with_reducible refine q9 ?_ ?_ ?_);(·rfl);· omega)|(refine qS rfl rfl ?_ ?_;(·first|omega|(simp only [List.length_cons,List.length_nil,List.length_map,List.length_append];omega)))|(refine qW rfl rfl ?_ ?_;(focus omega))|refine qe rfl ?_|refine qb rfl ?_)|((with_reducible refine eK ?_);first|(with_reducible first|refine qT ?_|refine qU ?_)|((with_reducible refine qr ?_ ?_)<;>intro h))|((with_reducible refine eO ?_);first|refine qe rfl ?_|(refine qB rfl ?_ ?_<;>intro h<;>try (exfalso;simp_all;done))|refine qb rfl ?_|(refine qF rfl ?_ rfl ?_;(focus omega))|(refine qt rfl ?_ rfl ?_ ?_;(focus omega);(all_goals intro h)))|((with_reducible refine eD ?_);first|refine qe rfl ?_|refine qb rfl ?_|((with_reducible refine qC ?_ ?_)<;>intro h))|((with_reducible refine qjr ?_);(unfold Xl))|((with_reducible refine ih ?_ _ _ _ ?_ (hA (by omega) (by assumption)))<;>(first|omega|assumption|(simp only [*,List.map_append,List.length_append,List.length_cons,List.length_nil,List.map_cons,List.map_nil];done)|(simp_all;done)|(simp_all;omega)))|((with_reducible refine ih ?_ _ _ _ ?_ (hB (by omega) (Classical.not_not.1 (by assumption))))<;>(first|omega|assumption|(simp only [*,List.map_append,List.length_append,List.length_cons,List.length_nil,List.map_cons,List.map_nil];done)|(simp_all;done)|(simp_all;omega)))|refine qq rfl ?_)
  all_goals first
    | rfl
    | (exfalso; have := hend (by omega); omega)
    | (exfalso; have := hy (by omega) (by assumption); simp only [Int.toNat_natCast] at *; omega)
    | trace_state
theorem qcm {d : TDisk} {s : List TPkg} {M : List TStep} (h : M = zE d s) : (nth M (Int.toNat 0)).kind = 1 := by
  obtain ⟨t1, t2, t3, t4⟩ := wz (d := d) (s := s); rw [h]; exact congrArg TStep.kind t1
theorem QU {d : TDisk} {s : List TPkg} {M : List TStep} (h : M = zE d s) : ((M.length : Int) - 2).toNat = (zE d s).length - 2 ∧ ((M.length : Int) - 1).toNat = (zE d s).length - 1 ∧ 3 ≤ M.length := by
  obtain ⟨t1, t2, t3, t4⟩ := wz (d := d) (s := s); rw [h]; omega
theorem qhP {d : TDisk} {s : List TPkg} {M : List TStep} (h : M = zE d s) : 3 ≤ M.length := (QU h).2.2
theorem qfN {d : TDisk} {s : List TPkg} {M : List TStep} (h : M = zE d s) : (nth M ((M.length : Int) - 2).toNat).pkgs = s := by
  obtain ⟨t1, t2, t3, t4⟩ := wz (d := d) (s := s); rw [(QU h).1, h, t2]
theorem Jp {d : TDisk} {s : List TPkg} {M : List TStep} (h : M = zE d s) : (nth M ((M.length : Int) - 2).toNat).kind = 3 := by
  obtain ⟨t1, t2, t3, t4⟩ := wz (d := d) (s := s); rw [(QU h).1, h, t2]
theorem qcn {d : TDisk} {s : List TPkg} {M : List TStep} (h : M = zE d s) : (nth M ((M.length : Int) - 1).toNat).kind = 4 := by
  obtain ⟨t1, t2, t3, t4⟩ := wz (d := d) (s := s); rw [(QU h).2.1, h, t3]
theorem pureFnStepsShape : ∀ l : List Int, l.length ≤ 140737488351232 → (∀ x ∈ l, (Lit.int .u8 x).wf = true) → ∃ n los, qd prg n 10 [.sl 1 (l.map bI)] [] = some (.v (.bool true), los) := by
  intro l hlen hw
  refine wM ?_
  (refine U10 (nl := 0) rfl ?_; unfold B10)
  repeat' (first|((with_reducible refine eG ?_);first|(with_reducible first|refine qX ?_|refine qY ?_|refine qZ ?_|refine q4 ?_|refine zm ?_)|refine qe rfl ?_|refine qb rfl ?_|((with_reducible refine zn ?_ ?_)<;>intro h))|((with_reducible refine eB ?_);first|((with_reducible first|refine zf ?_ ?_|refine ka ?_ ?_|refine zr ?_ ?_|refine kb ?_ ?_)<;>intro h<;>try (exfalso;omega))|((with_reducible refine kG ?_ ?_);· omega)|refine qe rfl ?_|refine qb rfl ?_)|((with_reducible refine eL ?_);first|((with_reducible refine qI ?_ ?_);· rfl)|refine qy rfl rfl ?_|refine qG rfl rfl ?_|refine qz rfl rfl rfl ?_|refine qJ rfl rfl ?_|refine qH rfl rfl ?_|refine qK rfl ?_|refine qe rfl ?_|refine qb rfl ?_)|((with_reducible refine eI ?_);first|((with_reducible refine q5 ?_ ?_ ?_);(·rfl);· omega)|(refine qN rfl rfl ?_ ?_;(·first|omega|(simp only [List.length_cons,List.length_nil,List.length_map,List.length_append];omega)))|(refine qO rfl rfl ?_ ?_;(focus omega))|((with_reducible refine q9 ?_ ?_ ?_);(·rfl);· omega)|(refine qS rfl rfl ?_ ?_;(·first|omega|(simp only [List.length_cons,List.length_nil,List.length_map,List.length_append];omega)))|(refine qW rfl rfl ?_ ?_;(focus omega))|refine qe rfl ?_|refine qb rfl ?_)|((with_reducible refine eC ?_);first|((refine zk (xw l (kW hw)) rfl rfl ?_);((rintro _ _ ⟨d,s,rfl,rfl,hd,hf,hsl,hsm⟩)<;>(((obtain ⟨M,hM,hMl,hMs,m1,m2⟩ := KN d s hd hsl hsm);(have hMI := QB d s (hd.len (yd hf)) (by omega) (zK hsm));(have hMS := QA d s (hd.len (yd hf)) (by omega) (zK hsm));(rw [← hM] at hMI hMS);(by_cases hg : diskTrue d = true ∧ zo s = true)))<;>(first|(refine zF ?_ rfl ?_;(focus first|exact .inl rfl|exact .inr rfl|(refine .inr ?_;simp [qo,qm,qh,qg,SO.hasSl,List.all_map,qi,SV.cells,Function.comp_def];done)))|(refine zl ?_ rfl ?_;(focus first|rfl|(simp [qo,qm,qh,qg,SO.hasSl,List.all_map,qi,SV.cells,Function.comp_def];done))))))|((refine qk (hMI ..) rfl rfl ?_ rfl ?_);(focus first|exact .inl rfl|exact .inr rfl|(refine .inr ?_;simp [qo,qm,qh,qg,SO.hasSl,List.all_map,qi,SV.cells,Function.comp_def];done)))|((refine qk (hMS ..) rfl rfl ?_ rfl ?_);(focus first|exact .inl rfl|exact .inr rfl|(refine .inr ?_;simp [qo,qm,qh,qg,SO.hasSl,List.all_map,qi,SV.cells,Function.comp_def];done)))|((refine qk (Qi (nth M (Int.toNat 0)).pkgs s (by obtain ⟨t1,t2,t3,t4⟩ := wz (d := d) (s := s);rw [m2 hg];exact congrArg TStep.pkgs t1) (by omega) (zK hsm)) rfl rfl ?_ rfl ?_);(focus first|exact .inl rfl|exact .inr rfl|(refine .inr ?_;simp [qo,qm,qh,qg,SO.hasSl,List.all_map,qi,SV.cells,Function.comp_def];done)))|((refine qk (Qi (nth M ((M.length : Int) - 2).toNat).pkgs s (qfN (m2 hg)) (by omega) (zK hsm)) rfl rfl ?_ rfl ?_);(focus first|exact .inl rfl|exact .inr rfl|(refine .inr ?_;simp [qo,qm,qh,qg,SO.hasSl,List.all_map,qi,SV.cells,Function.comp_def];done)))|((refine qk (wI s (by omega) (zK hsm)) rfl rfl ?_ rfl ?_);(focus first|exact .inl rfl|exact .inr rfl|(refine .inr ?_;simp [qo,qm,qh,qg,SO.hasSl,List.all_map,qi,SV.cells,Function.comp_def];done))))|((with_reducible refine eK ?_);first|(with_reducible first|refine qT ?_|refine qU ?_)|((with_reducible refine qr ?_ ?_)<;>intro h))|((with_reducible refine eO ?_);first|refine qe rfl ?_|(refine qB rfl ?_ ?_<;>intro h<;>try (exfalso;simp_all;done))|refine qb rfl ?_|(refine qF rfl ?_ rfl ?_;(focus omega))|(refine qt rfl ?_ rfl ?_ ?_;(focus omega);(all_goals intro h)))|((with_reducible refine eD ?_);first|refine qe rfl ?_|refine qb rfl ?_|((with_reducible refine qC ?_ ?_)<;>intro h))|refine qq rfl ?_)
  all_goals first
    | rfl
    | (exfalso; have := congrArg List.length (m1 (by assumption)); simp only [List.length_nil] at this; omega)
    | (exfalso; have := qhP (m2 hg); omega)
    | (exfalso; have := qcm (m2 hg); omega)
    | (exfalso; have := Jp (m2 hg); omega)
    | (exfalso; have := qcn (m2 hg); omega)
    | skip
  have e1 : kM s = zj s := if_pos hg.2
  rw [e1]
  have h1 : q7 d = true := by
    have := hg.1
    unfold diskTrue at this
    simp only [Bool.and_eq_true] at this
    exact this.1.1
  refine ZY d (zD h1) M hMl (zj s) (kv s) (fun i h h2 => by rw [m2 hg]; exact qfH h h2) ?_ 0 (Nat.zero_le _) 1 0 0 rfl rfl
  rw [m2 hg]
  exact wz.2.2.2
end Go.Proofs.Ytfjbclgbpdlkgaa
