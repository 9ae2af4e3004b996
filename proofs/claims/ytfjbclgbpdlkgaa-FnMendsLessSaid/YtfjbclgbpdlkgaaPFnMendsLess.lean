/- The law FnMendsLess, in S: S says yes, whatever the bytes. -/
import Derived.Test.YtfjbclgbpdlkgaaV59
namespace Go.Proofs.Ytfjbclgbpdlkgaa
open Go
set_option linter.unusedVariables false
set_option linter.unusedSimpArgs false
set_option maxHeartbeats 40000000
set_option maxRecDepth 100000
theorem qfO (d : TDisk) (hd : SDisk d) (hf : d.files.length ≤ 6) (M : List TStep) (hM : M = zp d) (h0 : M.length ≠ 0) (hl : M.length ≤ 8) (hMs : ∀ t, t ∈ M → wd t) : ∃ x, DLen x ∧
    Ex (fun m => qd prg m 36 [qR d, .sl 4 (M.map zc), iI M.length, bB false] []) (.tup [qR x, bB true]) [] ∧ Ex (fun m => qd prg m 32 [qR x] []) (.sl 4 []) []
    ∧ (∀ k : Int, 0 ≤ k → k < M.length → (nth M k.toNat).kind = 2 → Ex (fun m => qd prg m 24 [qR d, zc (nth M k.toNat)] []) (.tup [qR (doP d (nth M k.toNat)), bB true]) [] ∧
      Ex (fun m => qd prg m 32 [qR (doP d (nth M k.toNat))] []) (.sl 4 ((zp (doP d (nth M k.toNat))).map zc)) [] ∧ (zp (doP d (nth M k.toNat))).length + 1 = M.length) := by
  have hL := hd.len (yd hf)
  have h1 : q7 d = true := by
    cases h : q7 d
    · exact absurd (by rw [hM]; unfold zp; rw [if_neg (by rw [h]; decide)]; rfl) h0
    · rfl
  have hm : M = za d := by rw [hM]; unfold zp; rw [if_pos h1]
  have h2 : d.has = true := by
    cases h : d.has
    · exact absurd (by rw [hm, wY h]; rfl) h0
    · rfl
  have hok : z9 M = true := by rw [hm]; exact xD h1
  have h6 := zD h1
  have a := jd d M hL (by omega) hMs M.length false h1 hok (by omega)
  rw [Qg _ (Int.le_refl _)] at a
  have hx : M.foldl doP d = yb d.jour := by rw [hm]; unfold za; rw [if_pos h2]; exact jO h6
  rw [hx] at a
  have hpj := (zI.1 h1).2.2.2.1
  have hLm : DLen (yb d.jour) := ⟨Nat.le_trans hd.jl (by decide), zK hd.js, by show (zj d.jour).length ≤ _; rw [kv]; decide, Nat.zero_le _, jK⟩
  have b := kO (yb d.jour) hLm
  rw [show zp (yb d.jour) = [] by unfold zp; rw [if_pos (YQ hpj).1]; rfl] at b
  refine ⟨_, hLm, a, b, fun k k0 k1 k2 => ?_⟩
  have hkn : k.toNat < M.length := by omega
  have hkm := zX hkn
  have hst := kl.1 hok _ hkm
  have hLx : DLen (doP d (nth M k.toNat)) := (qhB hd (hMs _ hkm)).len (by rw [ZC]; omega)
  refine ⟨y2 d _ hL (hMs _ hkm).len h1 hst, kO _ hLx, ?_⟩
  have := qch h1 (k := k.toNat) (by rw [← hm]; exact hkn) (by rw [← hm]; exact k2)
  rw [← hm] at this
  unfold zp
  rw [if_pos this.1]
  exact this.2
theorem pureFnMendsLess : ∀ l : List Int, l.length ≤ 140737488351232 → (∀ x ∈ l, (Lit.int .u8 x).wf = true) → ∀ m : List Int, m.length ≤ 140737488351232 → (∀ x ∈ m, (Lit.int .u8 x).wf = true) → ∃ n los, qd prg n 11 [.sl 1 (l.map bI), .sl 1 (m.map bI)] [] = some (.v (.bool true), los) := by
  intro l hlen hw m hlen2 hw2
  refine wM ?_
  (refine U11 (nl := 0) rfl ?_; unfold B11)
  repeat' (first|((with_reducible refine eG ?_);first|(with_reducible first|refine qX ?_|refine qY ?_|refine qZ ?_|refine q4 ?_|refine zm ?_)|refine qe rfl ?_|refine qb rfl ?_|((with_reducible refine zn ?_ ?_)<;>intro h))|((with_reducible refine eB ?_);first|((with_reducible first|refine ka ?_ ?_|refine zr ?_ ?_|refine kb ?_ ?_)<;>intro h<;>try (exfalso;omega))|((with_reducible refine jx ?_ ?_);(·omega);intro x hx hx0 hx1)|refine qe rfl ?_|refine qb rfl ?_)|((with_reducible refine eL ?_);first|((with_reducible refine qI ?_ ?_);· rfl)|refine qy rfl rfl ?_|refine qG rfl rfl ?_|refine qz rfl rfl rfl ?_|refine qJ rfl rfl ?_|refine qH rfl rfl ?_|refine qK rfl ?_|refine qe rfl ?_|refine qb rfl ?_)|((with_reducible refine eI ?_);first|((with_reducible refine q5 ?_ ?_ ?_);(·rfl);· omega)|(refine qN rfl rfl ?_ ?_;(·first|omega|(simp only [List.length_cons,List.length_nil,List.length_map,List.length_append];omega)))|(refine qO rfl rfl ?_ ?_;(focus omega))|((with_reducible refine q9 ?_ ?_ ?_);(·rfl);· omega)|(refine qS rfl rfl ?_ ?_;(·first|omega|(simp only [List.length_cons,List.length_nil,List.length_map,List.length_append];omega)))|(refine qW rfl rfl ?_ ?_;(focus omega))|refine qe rfl ?_|refine qb rfl ?_)|((with_reducible refine eC ?_);first|((refine zk (ya l (kW hw)) rfl rfl ?_);((rintro _ _ ⟨d,rfl,rfl,hd,hf⟩)<;>(((obtain ⟨M,hM,hl,hMs,m1,m2,m3,m4⟩ := Ql d hd);(have hMI := kO d (hd.len (yd hf)));(have hMS := xu d (hd.len (yd hf)));(rw [← hM] at hMI hMS)))<;>(first|(refine zF ?_ rfl ?_;(focus first|exact .inl rfl|exact .inr rfl|(refine .inr ?_;simp [qo,qm,qh,qg,SO.hasSl,List.all_map,qi,SV.cells,Function.comp_def];done)))|(refine zl ?_ rfl ?_;(focus first|rfl|(simp [qo,qm,qh,qg,SO.hasSl,List.all_map,qi,SV.cells,Function.comp_def];done))))))|((refine qk (hMI ..) rfl rfl ?_ rfl ?_);(focus first|exact .inl rfl|exact .inr rfl|(refine .inr ?_;simp [qo,qm,qh,qg,SO.hasSl,List.all_map,qi,SV.cells,Function.comp_def];done)))|((refine qk (hMS ..) rfl rfl ?_ rfl ?_);(focus first|exact .inl rfl|exact .inr rfl|(refine .inr ?_;simp [qo,qm,qh,qg,SO.hasSl,List.all_map,qi,SV.cells,Function.comp_def];done))))|((with_reducible refine eK ?_);first|(with_reducible first|refine qT ?_|refine qU ?_)|((with_reducible refine qr ?_ ?_)<;>intro h))|((with_reducible refine eO ?_);first|refine qe rfl ?_|(refine qB rfl ?_ ?_<;>intro h<;>try (exfalso;simp_all;done))|refine qb rfl ?_|(refine qF rfl ?_ rfl ?_;(focus omega))|(refine qt rfl ?_ rfl ?_ ?_;(focus omega);(all_goals intro h)))|((with_reducible refine eD ?_);first|refine qe rfl ?_|refine qb rfl ?_|((with_reducible refine qC ?_ ?_)<;>intro h))|((with_reducible refine zg ?_ ?_);· intro _;rfl)|refine qq rfl ?_)
  all_goals first
    | rfl
    | skip
  obtain ⟨y, hLy, a1, a2, a3⟩ := qfO d hd hf M hM (by omega) hl hMs
  have hml := fun k : Int => Wz (d := doP d (nth M k.toNat))
  repeat' (first|((with_reducible refine eG ?_);first|(with_reducible first|refine qX ?_|refine qY ?_|refine qZ ?_|refine q4 ?_|refine zm ?_)|refine qe rfl ?_|refine qb rfl ?_|((with_reducible refine zn ?_ ?_)<;>intro h))|((with_reducible refine eB ?_);first|((with_reducible first|refine ka ?_ ?_|refine zr ?_ ?_|refine kb ?_ ?_)<;>intro h<;>try (exfalso;omega))|((with_reducible refine kG ?_ ?_);· omega)|((with_reducible refine jx ?_ ?_);(·omega);intro x hx hx0 hx1)|refine qe rfl ?_|refine qb rfl ?_)|((with_reducible refine eL ?_);first|((with_reducible refine qI ?_ ?_);· rfl)|refine qy rfl rfl ?_|refine qG rfl rfl ?_|refine qz rfl rfl rfl ?_|refine qJ rfl rfl ?_|refine qH rfl rfl ?_|refine qK rfl ?_|refine qe rfl ?_|refine qb rfl ?_)|((with_reducible refine eI ?_);first|((with_reducible refine q5 ?_ ?_ ?_);(·rfl);· omega)|(refine qN rfl rfl ?_ ?_;(·first|omega|(simp only [List.length_cons,List.length_nil,List.length_map,List.length_append];omega)))|(refine qO rfl rfl ?_ ?_;(focus omega))|((with_reducible refine q9 ?_ ?_ ?_);(·rfl);· omega)|(refine qS rfl rfl ?_ ?_;(·first|omega|(simp only [List.length_cons,List.length_nil,List.length_map,List.length_append];omega)))|(refine qW rfl rfl ?_ ?_;(focus omega))|refine qe rfl ?_|refine qb rfl ?_)|((with_reducible refine eC ?_);first|((refine qk (a1 ..) rfl rfl ?_ rfl ?_);(focus first|exact .inl rfl|exact .inr rfl|(refine .inr ?_;simp [qo,qm,qh,qg,SO.hasSl,List.all_map,qi,SV.cells,Function.comp_def];done)))|((refine qk (a2 ..) rfl rfl ?_ rfl ?_);(focus first|exact .inl rfl|exact .inr rfl|(refine .inr ?_;simp [qo,qm,qh,qg,SO.hasSl,List.all_map,qi,SV.cells,Function.comp_def];done)))|((refine qk ((a3 x (by omega) (by omega) (by omega)).1) rfl rfl ?_ rfl ?_);(focus first|exact .inl rfl|exact .inr rfl|(refine .inr ?_;simp [qo,qm,qh,qg,SO.hasSl,List.all_map,qi,SV.cells,Function.comp_def];done)))|((refine qk ((a3 x (by omega) (by omega) (by omega)).2.1) rfl rfl ?_ rfl ?_);(focus first|exact .inl rfl|exact .inr rfl|(refine .inr ?_;simp [qo,qm,qh,qg,SO.hasSl,List.all_map,qi,SV.cells,Function.comp_def];done))))|((with_reducible refine eK ?_);first|(with_reducible first|refine qT ?_|refine qU ?_)|((with_reducible refine qr ?_ ?_)<;>intro h))|((with_reducible refine eO ?_);first|refine qe rfl ?_|(refine qB rfl ?_ ?_<;>intro h<;>try (exfalso;simp_all;done))|refine qb rfl ?_|(refine qF rfl ?_ rfl ?_;(focus omega))|(refine qt rfl ?_ rfl ?_ ?_;(focus omega);(all_goals intro h)))|((with_reducible refine eD ?_);first|refine qe rfl ?_|refine qb rfl ?_|((with_reducible refine qC ?_ ?_)<;>intro h))|((with_reducible refine zg ?_ ?_);· intro _;rfl)|(with_reducible refine ku ?_ ?_)|(with_reducible refine wj (qyes) ?_ ?_)|((with_reducible refine qjs ?_);(unfold Xm))|refine qq rfl ?_)
  all_goals first
    | rfl
    | exact ⟨rfl, rfl⟩
    | (exfalso; have := (a3 x (by omega) (by omega) (by omega)).2.2; omega)
    | trace_state
end Go.Proofs.Ytfjbclgbpdlkgaa
