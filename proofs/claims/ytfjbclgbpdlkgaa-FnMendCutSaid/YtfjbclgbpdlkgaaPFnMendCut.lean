/- The law FnMendCut, in S: S says yes, whatever the bytes. -/
import Derived.Test.YtfjbclgbpdlkgaaV59
namespace Go.Proofs.Ytfjbclgbpdlkgaa
open Go
set_option linter.unusedVariables false
set_option linter.unusedSimpArgs false
set_option maxHeartbeats 40000000
set_option maxRecDepth 100000
theorem WF (d x y r : TDisk) (hr : DLen r) (hD : Ex (fun m => qd prg m 40 [qR d] []) (.tup [qR r, bB true]) []) (hY : Ex (fun m => qd prg m 40 [qR y] []) (.tup [qR r, bB true]) []) :
    Ev (fun n => y5 (qd prg n) (n + 1) 0 (.ptr 3 0) (bB true) (.ptr 11 0) (bB true) [.arr false 4 [], .arr false 1 [], .arr false 4 [], .box [.sl 4 (d.db.map zh), .sl 1 (d.files.map iI), bB d.has, .sl 4 (d.jour.map zh)], .arr false 4 [], .arr false 1 [], .arr false 4 [], .box [.sl 4 (x.db.map zh), .sl 1 (x.files.map iI), bB x.has, .sl 4 (x.jour.map zh)], .arr false 4 [], .arr false 1 [], .arr false 4 [], .box [.sl 4 (y.db.map zh), .sl 1 (y.files.map iI), bB y.has, .sl 4 (y.jour.map zh)]]) (Is (.v (.bool true)) []) := by
  refine qjA ?_
  unfold Xt
  repeat' (first|((with_reducible refine eG ?_);first|(with_reducible first|refine qX ?_|refine qY ?_|refine qZ ?_|refine q4 ?_|refine zm ?_)|refine qe rfl ?_|refine qb rfl ?_|((with_reducible refine zn ?_ ?_)<;>intro h))|((with_reducible refine eC ?_);first|((refine qk (hY ..) rfl rfl ?_ rfl ?_);(focus first|exact .inl rfl|exact .inr rfl|(refine .inr ?_;simp [qo,qm,qh,qg,SO.hasSl,List.all_map,qi,SV.cells,Function.comp_def];done)))|((refine qk (hD ..) rfl rfl ?_ rfl ?_);(focus first|exact .inl rfl|exact .inr rfl|(refine .inr ?_;simp [qo,qm,qh,qg,SO.hasSl,List.all_map,qi,SV.cells,Function.comp_def];done)))|((refine qk (kE r r rfl hr) rfl rfl ?_ rfl ?_);(focus first|exact .inl rfl|exact .inr rfl|(refine .inr ?_;simp [qo,qm,qh,qg,SO.hasSl,List.all_map,qi,SV.cells,Function.comp_def];done))))|((with_reducible refine eO ?_);first|refine qe rfl ?_|(refine qB rfl ?_ ?_<;>intro h<;>try (exfalso;simp_all;done))|refine qb rfl ?_|(refine qF rfl ?_ rfl ?_;(focus omega))|(refine qt rfl ?_ rfl ?_ ?_;(focus omega);(all_goals intro h)))|((with_reducible refine eD ?_);first|refine qe rfl ?_|refine qb rfl ?_|((with_reducible refine qC ?_ ?_)<;>intro h))|refine qq rfl ?_)
  all_goals first
    | exact ⟨rfl, rfl⟩
    | trace_state
theorem YU (d u r : TDisk) (m : List Int) (hm : m.length ≤ 1048576) (hLx : DLen u) (hx : q7 u = true) (hxS : SDisk u) (hr : DLen r) (hD : Ex (fun m => qd prg m 40 [qR d] []) (.tup [qR r, bB true]) [])
    (hY : ∀ c t, Ex (fun m => qd prg m 40 [qR (toP u (za u) c t)] []) (.tup [qR r, bB true]) []) :
    Ev (fun n => Qb (qd prg n) (n + 1) 0 (.sl 1 (m.map bI)) (.ptr 3 0) (.ptr 7 0) (bB true) [.arr false 4 [], .arr false 1 [], .arr false 4 [], .box [.sl 4 (d.db.map zh), .sl 1 (d.files.map iI), bB d.has, .sl 4 (d.jour.map zh)], .arr false 4 [], .arr false 1 [], .arr false 4 [], .box [.sl 4 (u.db.map zh), .sl 1 (u.files.map iI), bB u.has, .sl 4 (u.jour.map zh)]]) (Is (.v (.bool true)) []) := by
  have hMI := kO u hLx
  rw [(kS hx).1] at hMI
  have hl := KH u
  have hT := fun (c : Int) (t : Bool) (hc : 0 ≤ c) => jd u (za u) hLx (by omega) (yp hxS) c t hx (xD hx) hc
  refine UJ14_9 ?_
  unfold qdz
  repeat' (first|((with_reducible refine eB ?_);first|((with_reducible refine zr ?_ ?_)<;>intro h<;>try (exfalso;omega))|((with_reducible refine zi ?_ ?_);· omega)|((with_reducible refine W8 ?_ ?_ ?_);(·omega);(·omega);intro x hx hx0 hx1)|((with_reducible refine jx ?_ ?_);(·omega);intro x hx hx0 hx1)|refine qe rfl ?_|refine qb rfl ?_)|((with_reducible refine eL ?_);first|((with_reducible refine qI ?_ ?_);· rfl)|refine qy rfl rfl ?_|refine qG rfl rfl ?_|refine qz rfl rfl rfl ?_|refine qJ rfl rfl ?_|refine qH rfl rfl ?_|refine qK rfl ?_|refine qe rfl ?_|refine qb rfl ?_)|((with_reducible refine eC ?_);first|((refine qk (hMI ..) rfl rfl ?_ rfl ?_);(focus first|exact .inl rfl|exact .inr rfl|(refine .inr ?_;simp [qo,qm,qh,qg,SO.hasSl,List.all_map,qi,SV.cells,Function.comp_def];done)))|((refine qk (hT _ _ (by omega)) rfl rfl ?_ rfl ?_);(focus first|exact .inl rfl|exact .inr rfl|(refine .inr ?_;simp [qo,qm,qh,qg,SO.hasSl,List.all_map,qi,SV.cells,Function.comp_def];done))))|((with_reducible refine eO ?_);first|refine qe rfl ?_|(refine qB rfl ?_ ?_<;>intro h<;>try (exfalso;simp_all;done))|refine qb rfl ?_|(refine qF rfl ?_ rfl ?_;(focus omega))|(refine qt rfl ?_ rfl ?_ ?_;(focus omega);(all_goals intro h)))|((with_reducible refine eD ?_);first|refine qe rfl ?_|refine qb rfl ?_)|((with_reducible refine zg ?_ ?_);· intro _;rfl)|(with_reducible refine ku ?_ ?_)|(with_reducible exact WF d u _ r hr hD (hY _ _))|refine qq rfl ?_)
  all_goals first
    | exact ⟨rfl, rfl⟩
    | trace_state
theorem qhQ (d : TDisk) (hd : SDisk d) (hf : d.files.length ≤ 6) (h : q7 d = true) (c : Int) (t : Bool) : ∃ r, DLen r ∧ DLen (toP d (za d) c t) ∧ q7 (toP d (za d) c t) = true ∧ SDisk (toP d (za d) c t) ∧ Ex (fun m => qd prg m 40 [qR d] []) (.tup [qR r, bB true]) [] ∧
    (∀ c2 t2, Ex (fun m => qd prg m 40 [qR (toP (toP d (za d) c t) (za (toP d (za d) c t)) c2 t2)] []) (.tup [qR r, bB true]) []) := by
  have hS := QF (cut := c) (torn := t) hd (yp hd)
  have hl : ∀ {z : TDisk}, SDisk z → z.files.length ≤ 6 → DLen z := fun h1 h2 => h1.len (yd h2)
  have f1 : (toP d (za d) c t).files.length ≤ 6 := by rw [kd]; exact hf
  obtain ⟨r, e1, e2⟩ := (WD h c 0 t false).2.2
  have hD := ZI d (hl hd hf)
  rw [e2] at hD
  have hr : r = toP d (za d) (za d).length false := by
    have e3 := e2
    unfold ym at e3
    obtain ⟨i1, i2⟩ := kS h
    rw [jN h i2 (Int.natCast_nonneg _), i1] at e3
    exact ((Prod.mk.inj e3).1).symm
  refine ⟨r, ?_, hl hS f1, (WD h c 0 t false).1, hS, hD, fun c2 t2 => ?_⟩
  · rw [hr]; exact hl (QF hd (yp hd)) (by rw [kd]; exact hf)
  · obtain ⟨r2, g1, g2⟩ := (WD h c c2 t t2).2.2
    have er : r2 = r := by rw [e2] at g2; exact ((Prod.mk.inj g2).1).symm
    subst er
    have hY := ZI (toP (toP d (za d) c t) (za (toP d (za d) c t)) c2 t2) (hl (QF hS (yp hS)) (by rw [kd]; exact f1))
    rw [g1] at hY
    exact hY
theorem is_yes : ∀ x os, Is (.v (.bool true)) [] x os → qk5 x os := by
  rintro x os ⟨rfl, rfl⟩; rfl
theorem pureFnMendCut : ∀ l : List Int, l.length ≤ 140737488351232 → (∀ x ∈ l, (Lit.int .u8 x).wf = true) → ∀ m : List Int, m.length ≤ 140737488351232 → (∀ x ∈ m, (Lit.int .u8 x).wf = true) → ∃ n los, qd prg n 14 [.sl 1 (l.map bI), .sl 1 (m.map bI)] [] = some (.v (.bool true), los) := by
  intro l hlen hw m hlen2 hw2
  refine wM ?_
  (refine U14 (nl := 0) rfl ?_; unfold B14)
  repeat' (first|((with_reducible refine eG ?_);first|(with_reducible first|refine qX ?_|refine qY ?_|refine qZ ?_|refine q4 ?_|refine zm ?_)|refine qe rfl ?_|refine qb rfl ?_|((with_reducible refine zn ?_ ?_)<;>intro h))|((with_reducible refine eB ?_);first|((with_reducible first|refine ka ?_ ?_|refine zr ?_ ?_|refine kb ?_ ?_)<;>intro h<;>try (exfalso;omega))|((with_reducible refine zi ?_ ?_);· omega)|((with_reducible refine jx ?_ ?_);(·omega);intro x hx hx0 hx1)|refine qe rfl ?_|refine qb rfl ?_)|((with_reducible refine eL ?_);first|((with_reducible refine qI ?_ ?_);· rfl)|refine qy rfl rfl ?_|refine qG rfl rfl ?_|refine qz rfl rfl rfl ?_|refine qJ rfl rfl ?_|refine qH rfl rfl ?_|refine qK rfl ?_|refine qe rfl ?_|refine qb rfl ?_)|((with_reducible refine eC ?_);first|((refine zk (ya l (kW hw)) rfl rfl ?_);((rintro _ _ ⟨d,rfl,rfl,hd,hf⟩)<;>(((obtain ⟨M,hM,hl,hMs,m1,m2,m3,m4⟩ := Ql d hd);(have hMI := kO d (hd.len (yd hf)));(have hMS := xu d (hd.len (yd hf)));(rw [← hM] at hMI hMS)))<;>(first|(refine zF ?_ rfl ?_;(focus first|exact .inl rfl|exact .inr rfl|(refine .inr ?_;simp [qo,qm,qh,qg,SO.hasSl,List.all_map,qi,SV.cells,Function.comp_def];done)))|(refine zl ?_ rfl ?_;(focus first|rfl|(simp [qo,qm,qh,qg,SO.hasSl,List.all_map,qi,SV.cells,Function.comp_def];done))))))|((refine qk (hMI ..) rfl rfl ?_ rfl ?_);(focus first|exact .inl rfl|exact .inr rfl|(refine .inr ?_;simp [qo,qm,qh,qg,SO.hasSl,List.all_map,qi,SV.cells,Function.comp_def];done)))|((refine qk (hMS ..) rfl rfl ?_ rfl ?_);(focus first|exact .inl rfl|exact .inr rfl|(refine .inr ?_;simp [qo,qm,qh,qg,SO.hasSl,List.all_map,qi,SV.cells,Function.comp_def];done)))|((refine zT (kN d (hd.len (by omega))) rfl rfl ?_ rfl rfl ?_ ?_);(focus first|exact .inl rfl|exact .inr rfl|(refine .inr ?_;simp [qo,qm,qh,qg,SO.hasSl,List.all_map,qi,SV.cells,Function.comp_def];done));(all_goals (intro h));(all_goals (try (exfalso;simp_all;done)))))|((with_reducible refine eK ?_);first|(with_reducible first|refine qT ?_|refine qU ?_)|((with_reducible refine qr ?_ ?_)<;>intro h))|((with_reducible refine eO ?_);first|refine qe rfl ?_|(refine qB rfl ?_ ?_<;>intro h<;>try (exfalso;simp_all;done))|refine qb rfl ?_|(refine qF rfl ?_ rfl ?_;(focus omega))|(refine qt rfl ?_ rfl ?_ ?_;(focus omega);(all_goals intro h)))|((with_reducible refine eD ?_);first|refine qe rfl ?_|refine qb rfl ?_|((with_reducible refine qC ?_ ?_)<;>intro h))|((with_reducible refine zg ?_ ?_);· intro _;rfl)|refine qq rfl ?_)
  all_goals first
    | rfl
    | skip
  have hh := h
  obtain rfl := m3 h
  have hok : z9 (za d) = true := xD hh
  have hT := fun (c : Int) (t : Bool) (hc : 0 ≤ c) => jd d (za d) (hd.len (yd hf)) (by omega) hMs c t hh hok hc
  have hJ9 : ∀ (c : Int) (t : Bool), Ev (fun n => Qb (qd prg n) (n + 1) 0 (.sl 1 (m.map bI)) (.ptr 3 0) (.ptr 7 0) (bB true) [.arr false 4 [], .arr false 1 [], .arr false 4 [], .box [.sl 4 (d.db.map zh), .sl 1 (d.files.map iI), bB d.has, .sl 4 (d.jour.map zh)], .arr false 4 [], .arr false 1 [], .arr false 4 [], .box [.sl 4 ((toP d (za d) c t).db.map zh), .sl 1 ((toP d (za d) c t).files.map iI), bB (toP d (za d) c t).has, .sl 4 ((toP d (za d) c t).jour.map zh)]]) (Is (.v (.bool true)) []) := fun c t => by
    obtain ⟨r, hr, c1, c2, c3, hD, hY⟩ := qhQ d hd hf hh c t
    exact YU d _ r m (by omega) c1 c2 c3 hr hD hY
  repeat' (first|((with_reducible refine eG ?_);first|(with_reducible first|refine qX ?_|refine qY ?_|refine qZ ?_|refine q4 ?_|refine zm ?_)|refine qe rfl ?_|refine qb rfl ?_|((with_reducible refine zn ?_ ?_)<;>intro h))|((with_reducible refine eB ?_);first|((with_reducible first|refine ka ?_ ?_|refine zr ?_ ?_|refine kb ?_ ?_)<;>intro h<;>try (exfalso;omega))|((with_reducible refine zi ?_ ?_);· omega)|((with_reducible refine jx ?_ ?_);(·omega);intro x hx hx0 hx1)|refine qe rfl ?_|refine qb rfl ?_)|((with_reducible refine eL ?_);first|((with_reducible refine qI ?_ ?_);· rfl)|refine qy rfl rfl ?_|refine qG rfl rfl ?_|refine qz rfl rfl rfl ?_|refine qJ rfl rfl ?_|refine qH rfl rfl ?_|refine qK rfl ?_|refine qe rfl ?_|refine qb rfl ?_)|((with_reducible refine eC ?_);first|((refine qk (hT _ _ (by omega)) rfl rfl ?_ rfl ?_);(focus first|exact .inl rfl|exact .inr rfl|(refine .inr ?_;simp [qo,qm,qh,qg,SO.hasSl,List.all_map,qi,SV.cells,Function.comp_def];done))))|((with_reducible refine eK ?_);first|(with_reducible first|refine qT ?_|refine qU ?_)|((with_reducible refine qr ?_ ?_)<;>intro h))|((with_reducible refine eO ?_);first|refine qe rfl ?_|(refine qB rfl ?_ ?_<;>intro h<;>try (exfalso;simp_all;done))|refine qb rfl ?_|(refine qF rfl ?_ rfl ?_;(focus omega))|(refine qt rfl ?_ rfl ?_ ?_;(focus omega);(all_goals intro h)))|((with_reducible refine eD ?_);first|refine qe rfl ?_|refine qb rfl ?_|((with_reducible refine qC ?_ ?_)<;>intro h))|((with_reducible refine zg ?_ ?_);· intro _;rfl)|(with_reducible refine ku ?_ ?_)|(with_reducible refine wj (qyes) ?_ ?_)|(with_reducible exact hJ9 _ _)|refine qq rfl ?_)
  all_goals first
    | trace_state
end Go.Proofs.Ytfjbclgbpdlkgaa
