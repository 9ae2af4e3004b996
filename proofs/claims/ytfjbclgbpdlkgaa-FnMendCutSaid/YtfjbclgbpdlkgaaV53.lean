/- The evaluator S and what it says of functions: V52, V53. -/
import Derived.Test.YtfjbclgbpdlkgaaV51
import Derived.Test.YtfjbclgbpdlkgaaV50
/- Disks: what the laws call. -/
namespace Go.Proofs.Ytfjbclgbpdlkgaa
open Go
set_option linter.unusedVariables false
set_option linter.unusedSimpArgs false
set_option maxHeartbeats 4000000
def kw : TDisk := ⟨[], [], false, []⟩
def Qz (d : TDisk) (t : TStep) : TDisk × Bool := if q7 d = true ∧ zO t = true then (doP d t, true) else (kw, false)
def yk (d : TDisk) (t : TStep) : TDisk × Bool := if q7 d = true ∧ zO t = true then (kB d t, true) else (kw, false)
def z9 (l : List TStep) : Bool := decide (∀ i, i < l.length → zO (nth l i) = true)
def yl (d : TDisk) (l : List TStep) (cut : Int) (torn : Bool) : TDisk × Bool := if q7 d = true ∧ 0 ≤ cut ∧ z9 l = true then (toP d l cut torn, true) else (kw, false)
def zp (d : TDisk) : List TStep := if q7 d = true then za d else []
def w9 (d : TDisk) (s : List TPkg) : List TStep := if diskTrue d = true ∧ zo s = true then zE d s else []
def ym (d : TDisk) : TDisk × Bool := yl d (zp d) (zp d).length false
theorem ZG {t : TStep} (h : zO t = true) : t.kind ≠ 2 ∨ 0 ≤ t.path ∧ t.path ≤ 5 := by
  have h := of_decide_eq_true h
  rcases h with ⟨h, -⟩ | ⟨-, h, -⟩ | ⟨h, -⟩
  · omega
  · exact .inr h
  · omega
theorem zD {d : TDisk} (h : q7 d = true) : d.files.length = 6 := (zI.1 h).2.1
theorem QR {d : TDisk} {t : TStep} (h : q7 d = true) (h2 : zO t = true) : inD d t := by
  have h1 := zD h
  have := ZG h2
  unfold inD; omega
abbrev rDo (r : TDisk × Bool) : SV := .tup [qR r.1, bB r.2]
theorem ZH (d : TDisk) (hL : DLen d) : Ex (fun m => qd prg m 57 [qR d] []) (jG 0 d) [.arr false 1 (d.files.map iI)] := by
  refine zz.1 ?_
  have hf := hL.fl
  (refine U57 (nl := 0) rfl ?_; unfold B57)
  repeat' (first|((with_reducible refine eC ?_);first|((refine qk (w7 d.db hL.db hL.dp) rfl rfl ?_ rfl ?_);(focus first|exact .inl rfl|exact .inr rfl|(refine .inr ?_;simp [qo,qm,qh,qg,SO.hasSl,List.all_map,qi,SV.cells,Function.comp_def];done)))|((refine qk (w7 d.jour hL.jl hL.jp) rfl rfl ?_ rfl ?_);(focus first|exact .inl rfl|exact .inr rfl|(refine .inr ?_;simp [qo,qm,qh,qg,SO.hasSl,List.all_map,qi,SV.cells,Function.comp_def];done))))|((with_reducible refine eA ?_);first|(refine kU rfl rfl rfl rfl rfl ?_ ?_;· first|decide|(simp only [List.length_append,List.length_cons,List.length_nil,List.length_map,List.length_take,List.length_drop];omega)))|((with_reducible refine eO ?_);first|refine qe rfl ?_|(refine qB rfl ?_ ?_<;>intro h<;>try (exfalso;simp_all;done))|refine qb rfl ?_|(refine qF rfl ?_ rfl ?_;(focus omega))|(refine qt rfl ?_ rfl ?_ ?_;(focus omega);(all_goals intro h))|(refine zP rfl rfl rfl ?_ ?_ ?_;(·simp);(·first|omega|(simp only [List.length_cons,List.length_nil,List.length_map,List.length_append];omega));intro w))|((with_reducible refine eD ?_);first|refine qe rfl ?_|refine qb rfl ?_)|((with_reducible refine zg ?_ ?_);· intro _;rfl)|(with_reducible refine ku ?_ ?_)|refine qq rfl ?_)
  all_goals first
    | exact ⟨rfl, rfl⟩
    | (rw [show jG 0 d = .ag [.sl 4 (d.db.map zh), .osl 0, bB d.has, .sl 4 (d.jour.map zh)] from rfl, (by assumption : d.has = _)]; exact ⟨rfl, rfl⟩)
    | trace_state
theorem xt (d : TDisk) (hL : DLen d) : Ex (fun m => qd prg m 59 [qR d] []) (jG 0 d) [.arr false 1 (d.files.map iI)] := by
  refine zz.1 ?_
  have hf := hL.fl
  (refine U59 (nl := 0) rfl ?_; unfold B59)
  repeat' (first|((with_reducible refine eC ?_);first|((refine qk (jF d.db hL.db hL.dp) rfl rfl ?_ rfl ?_);(focus first|exact .inl rfl|exact .inr rfl|(refine .inr ?_;simp [qo,qm,qh,qg,SO.hasSl,List.all_map,qi,SV.cells,Function.comp_def];done)))|((refine qk (jF d.jour hL.jl hL.jp) rfl rfl ?_ rfl ?_);(focus first|exact .inl rfl|exact .inr rfl|(refine .inr ?_;simp [qo,qm,qh,qg,SO.hasSl,List.all_map,qi,SV.cells,Function.comp_def];done)))|((refine qk (qbM d.files (by omega)) rfl rfl ?_ rfl ?_);(focus first|exact .inl rfl|exact .inr rfl|(refine .inr ?_;simp [qo,qm,qh,qg,SO.hasSl,List.all_map,qi,SV.cells,Function.comp_def];done))))|((with_reducible refine eO ?_);first|refine qe rfl ?_|(refine qB rfl ?_ ?_<;>intro h<;>try (exfalso;simp_all;done))|refine qb rfl ?_|(refine qF rfl ?_ rfl ?_;(focus omega))|(refine qt rfl ?_ rfl ?_ ?_;(focus omega);(all_goals intro h)))|((with_reducible refine eD ?_);first|refine qe rfl ?_|refine qb rfl ?_)|((with_reducible refine zg ?_ ?_);· intro _;rfl)|refine qq rfl ?_)
  all_goals first
    | exact ⟨rfl, rfl⟩
    | (rw [show jG 0 d = .ag [.sl 4 (d.db.map zh), .osl 0, bB d.has, .sl 4 (d.jour.map zh)] from rfl, (by assumption : d.has = _)]; exact ⟨rfl, rfl⟩)
    | trace_state
theorem qfl (d : TDisk) (t : TStep) (hL : DLen d) (ht : TLenS t) : Ex (fun m => qd prg m 23 [qR d, zc t] []) (rDo (Qz d t)) [] := by
  refine zz.1 ?_
  have hD := kN d hL
  have hT := Zy t ht
  cases hok : q7 d <;> cases hst : zO t
  all_goals (unfold Qz; rw [hok, hst]; rw [hok] at hD; rw [hst] at hT)
  · (refine U23 (nl := 0) rfl ?_; unfold B23)
    repeat' (first|((with_reducible refine eG ?_);first|(with_reducible first|refine qX ?_|refine qY ?_|refine qZ ?_|refine q4 ?_|refine zm ?_)|refine qe rfl ?_|refine qb rfl ?_|((with_reducible refine zn ?_ ?_)<;>intro h))|((with_reducible refine eC ?_);first|((refine qk (hD ..) rfl rfl ?_ rfl ?_);(focus first|exact .inl rfl|exact .inr rfl|(refine .inr ?_;simp [qo,qm,qh,qg,SO.hasSl,List.all_map,qi,SV.cells,Function.comp_def];done)))|((refine qk (hT ..) rfl rfl ?_ rfl ?_);(focus first|exact .inl rfl|exact .inr rfl|(refine .inr ?_;simp [qo,qm,qh,qg,SO.hasSl,List.all_map,qi,SV.cells,Function.comp_def];done))))|((with_reducible refine eK ?_);first|(with_reducible first|refine qT ?_|refine qU ?_)|((with_reducible refine qr ?_ ?_)<;>intro h))|((with_reducible refine eO ?_);first|refine qe rfl ?_|(refine qB rfl ?_ ?_<;>intro h<;>try (exfalso;simp_all;done))|refine qb rfl ?_|(refine qF rfl ?_ rfl ?_;(focus omega))|(refine qt rfl ?_ rfl ?_ ?_;(focus omega);(all_goals intro h)))|((with_reducible refine eD ?_);first|refine qe rfl ?_|refine qb rfl ?_|((with_reducible refine qC ?_ ?_)<;>intro h))|((with_reducible refine zg ?_ ?_);· intro _;rfl)|refine qq rfl ?_)
    all_goals exact ⟨rfl, rfl⟩
  · (refine U23 (nl := 0) rfl ?_; unfold B23)
    repeat' (first|((with_reducible refine eG ?_);first|(with_reducible first|refine qX ?_|refine qY ?_|refine qZ ?_|refine q4 ?_|refine zm ?_)|refine qe rfl ?_|refine qb rfl ?_|((with_reducible refine zn ?_ ?_)<;>intro h))|((with_reducible refine eC ?_);first|((refine qk (hD ..) rfl rfl ?_ rfl ?_);(focus first|exact .inl rfl|exact .inr rfl|(refine .inr ?_;simp [qo,qm,qh,qg,SO.hasSl,List.all_map,qi,SV.cells,Function.comp_def];done)))|((refine qk (hT ..) rfl rfl ?_ rfl ?_);(focus first|exact .inl rfl|exact .inr rfl|(refine .inr ?_;simp [qo,qm,qh,qg,SO.hasSl,List.all_map,qi,SV.cells,Function.comp_def];done))))|((with_reducible refine eK ?_);first|(with_reducible first|refine qT ?_|refine qU ?_)|((with_reducible refine qr ?_ ?_)<;>intro h))|((with_reducible refine eO ?_);first|refine qe rfl ?_|(refine qB rfl ?_ ?_<;>intro h<;>try (exfalso;simp_all;done))|refine qb rfl ?_|(refine qF rfl ?_ rfl ?_;(focus omega))|(refine qt rfl ?_ rfl ?_ ?_;(focus omega);(all_goals intro h)))|((with_reducible refine eD ?_);first|refine qe rfl ?_|refine qb rfl ?_|((with_reducible refine qC ?_ ?_)<;>intro h))|((with_reducible refine zg ?_ ?_);· intro _;rfl)|refine qq rfl ?_)
    all_goals exact ⟨rfl, rfl⟩
  · (refine U23 (nl := 0) rfl ?_; unfold B23)
    repeat' (first|((with_reducible refine eG ?_);first|(with_reducible first|refine qX ?_|refine qY ?_|refine qZ ?_|refine q4 ?_|refine zm ?_)|refine qe rfl ?_|refine qb rfl ?_|((with_reducible refine zn ?_ ?_)<;>intro h))|((with_reducible refine eC ?_);first|((refine qk (hD ..) rfl rfl ?_ rfl ?_);(focus first|exact .inl rfl|exact .inr rfl|(refine .inr ?_;simp [qo,qm,qh,qg,SO.hasSl,List.all_map,qi,SV.cells,Function.comp_def];done)))|((refine qk (hT ..) rfl rfl ?_ rfl ?_);(focus first|exact .inl rfl|exact .inr rfl|(refine .inr ?_;simp [qo,qm,qh,qg,SO.hasSl,List.all_map,qi,SV.cells,Function.comp_def];done))))|((with_reducible refine eK ?_);first|(with_reducible first|refine qT ?_|refine qU ?_)|((with_reducible refine qr ?_ ?_)<;>intro h))|((with_reducible refine eO ?_);first|refine qe rfl ?_|(refine qB rfl ?_ ?_<;>intro h<;>try (exfalso;simp_all;done))|refine qb rfl ?_|(refine qF rfl ?_ rfl ?_;(focus omega))|(refine qt rfl ?_ rfl ?_ ?_;(focus omega);(all_goals intro h)))|((with_reducible refine eD ?_);first|refine qe rfl ?_|refine qb rfl ?_|((with_reducible refine qC ?_ ?_)<;>intro h))|((with_reducible refine zg ?_ ?_);· intro _;rfl)|refine qq rfl ?_)
    all_goals exact ⟨rfl, rfl⟩
  · (refine U23 (nl := 0) rfl ?_; unfold B23)
    repeat' (first|((with_reducible refine eG ?_);first|(with_reducible first|refine qX ?_|refine qY ?_|refine qZ ?_|refine q4 ?_|refine zm ?_)|refine qe rfl ?_|refine qb rfl ?_|((with_reducible refine zn ?_ ?_)<;>intro h))|((with_reducible refine eC ?_);first|((refine qk (hD ..) rfl rfl ?_ rfl ?_);(focus first|exact .inl rfl|exact .inr rfl|(refine .inr ?_;simp [qo,qm,qh,qg,SO.hasSl,List.all_map,qi,SV.cells,Function.comp_def];done)))|((refine qk (hT ..) rfl rfl ?_ rfl ?_);(focus first|exact .inl rfl|exact .inr rfl|(refine .inr ?_;simp [qo,qm,qh,qg,SO.hasSl,List.all_map,qi,SV.cells,Function.comp_def];done)))|((refine qk (ZH d hL) rfl rfl ?_ rfl ?_);(focus first|exact .inl rfl|exact .inr rfl|(refine .inr ?_;simp [qo,qm,qh,qg,SO.hasSl,List.all_map,qi,SV.cells,Function.comp_def];done)))|((refine qk (qfh d t ht (QR hok hst) hL.fl) rfl rfl ?_ rfl ?_);(focus first|exact .inl rfl|exact .inr rfl|(refine .inr ?_;simp [qo,qm,qh,qg,SO.hasSl,List.all_map,qi,SV.cells,Function.comp_def];done))))|((with_reducible refine eK ?_);first|(with_reducible first|refine qT ?_|refine qU ?_)|((with_reducible refine qr ?_ ?_)<;>intro h))|((with_reducible refine eO ?_);first|refine qe rfl ?_|(refine qB rfl ?_ ?_<;>intro h<;>try (exfalso;simp_all;done))|refine qb rfl ?_|(refine qF rfl ?_ rfl ?_;(focus omega))|(refine qt rfl ?_ rfl ?_ ?_;(focus omega);(all_goals intro h)))|((with_reducible refine eD ?_);first|refine qe rfl ?_|refine qb rfl ?_|((with_reducible refine qC ?_ ?_)<;>intro h))|((with_reducible refine zg ?_ ?_);· intro _;rfl)|refine qq rfl ?_)
    all_goals exact ⟨rfl, rfl⟩
theorem jI (d : TDisk) (t : TStep) (hL : DLen d) (ht : TLenS t) : Ex (fun m => qd prg m 24 [qR d, zc t] []) (rDo (Qz d t)) [] := by
  refine zz.1 ?_
  have hD := w6 d hL
  have hT := Zz t ht
  cases hok : q7 d <;> cases hst : zO t
  all_goals (unfold Qz; rw [hok, hst]; rw [hok] at hD; rw [hst] at hT)
  · (refine U24 (nl := 0) rfl ?_; unfold B24)
    repeat' (first|((with_reducible refine eG ?_);first|(with_reducible first|refine qX ?_|refine qY ?_|refine qZ ?_|refine q4 ?_|refine zm ?_)|refine qe rfl ?_|refine qb rfl ?_|((with_reducible refine zn ?_ ?_)<;>intro h))|((with_reducible refine eC ?_);first|((refine qk (hD ..) rfl rfl ?_ rfl ?_);(focus first|exact .inl rfl|exact .inr rfl|(refine .inr ?_;simp [qo,qm,qh,qg,SO.hasSl,List.all_map,qi,SV.cells,Function.comp_def];done)))|((refine qk (hT ..) rfl rfl ?_ rfl ?_);(focus first|exact .inl rfl|exact .inr rfl|(refine .inr ?_;simp [qo,qm,qh,qg,SO.hasSl,List.all_map,qi,SV.cells,Function.comp_def];done))))|((with_reducible refine eK ?_);first|(with_reducible first|refine qT ?_|refine qU ?_)|((with_reducible refine qr ?_ ?_)<;>intro h))|((with_reducible refine eO ?_);first|refine qe rfl ?_|(refine qB rfl ?_ ?_<;>intro h<;>try (exfalso;simp_all;done))|refine qb rfl ?_|(refine qF rfl ?_ rfl ?_;(focus omega))|(refine qt rfl ?_ rfl ?_ ?_;(focus omega);(all_goals intro h)))|((with_reducible refine eD ?_);first|refine qe rfl ?_|refine qb rfl ?_|((with_reducible refine qC ?_ ?_)<;>intro h))|refine qq rfl ?_)
    all_goals exact ⟨rfl, rfl⟩
  · (refine U24 (nl := 0) rfl ?_; unfold B24)
    repeat' (first|((with_reducible refine eG ?_);first|(with_reducible first|refine qX ?_|refine qY ?_|refine qZ ?_|refine q4 ?_|refine zm ?_)|refine qe rfl ?_|refine qb rfl ?_|((with_reducible refine zn ?_ ?_)<;>intro h))|((with_reducible refine eC ?_);first|((refine qk (hD ..) rfl rfl ?_ rfl ?_);(focus first|exact .inl rfl|exact .inr rfl|(refine .inr ?_;simp [qo,qm,qh,qg,SO.hasSl,List.all_map,qi,SV.cells,Function.comp_def];done)))|((refine qk (hT ..) rfl rfl ?_ rfl ?_);(focus first|exact .inl rfl|exact .inr rfl|(refine .inr ?_;simp [qo,qm,qh,qg,SO.hasSl,List.all_map,qi,SV.cells,Function.comp_def];done))))|((with_reducible refine eK ?_);first|(with_reducible first|refine qT ?_|refine qU ?_)|((with_reducible refine qr ?_ ?_)<;>intro h))|((with_reducible refine eO ?_);first|refine qe rfl ?_|(refine qB rfl ?_ ?_<;>intro h<;>try (exfalso;simp_all;done))|refine qb rfl ?_|(refine qF rfl ?_ rfl ?_;(focus omega))|(refine qt rfl ?_ rfl ?_ ?_;(focus omega);(all_goals intro h)))|((with_reducible refine eD ?_);first|refine qe rfl ?_|refine qb rfl ?_|((with_reducible refine qC ?_ ?_)<;>intro h))|refine qq rfl ?_)
    all_goals exact ⟨rfl, rfl⟩
  · (refine U24 (nl := 0) rfl ?_; unfold B24)
    repeat' (first|((with_reducible refine eG ?_);first|(with_reducible first|refine qX ?_|refine qY ?_|refine qZ ?_|refine q4 ?_|refine zm ?_)|refine qe rfl ?_|refine qb rfl ?_|((with_reducible refine zn ?_ ?_)<;>intro h))|((with_reducible refine eC ?_);first|((refine qk (hD ..) rfl rfl ?_ rfl ?_);(focus first|exact .inl rfl|exact .inr rfl|(refine .inr ?_;simp [qo,qm,qh,qg,SO.hasSl,List.all_map,qi,SV.cells,Function.comp_def];done)))|((refine qk (hT ..) rfl rfl ?_ rfl ?_);(focus first|exact .inl rfl|exact .inr rfl|(refine .inr ?_;simp [qo,qm,qh,qg,SO.hasSl,List.all_map,qi,SV.cells,Function.comp_def];done))))|((with_reducible refine eK ?_);first|(with_reducible first|refine qT ?_|refine qU ?_)|((with_reducible refine qr ?_ ?_)<;>intro h))|((with_reducible refine eO ?_);first|refine qe rfl ?_|(refine qB rfl ?_ ?_<;>intro h<;>try (exfalso;simp_all;done))|refine qb rfl ?_|(refine qF rfl ?_ rfl ?_;(focus omega))|(refine qt rfl ?_ rfl ?_ ?_;(focus omega);(all_goals intro h)))|((with_reducible refine eD ?_);first|refine qe rfl ?_|refine qb rfl ?_|((with_reducible refine qC ?_ ?_)<;>intro h))|refine qq rfl ?_)
    all_goals exact ⟨rfl, rfl⟩
  · (refine U24 (nl := 0) rfl ?_; unfold B24)
    repeat' (first|((with_reducible refine eG ?_);first|(with_reducible first|refine qX ?_|refine qY ?_|refine qZ ?_|refine q4 ?_|refine zm ?_)|refine qe rfl ?_|refine qb rfl ?_|((with_reducible refine zn ?_ ?_)<;>intro h))|((with_reducible refine eC ?_);first|((refine qk (hD ..) rfl rfl ?_ rfl ?_);(focus first|exact .inl rfl|exact .inr rfl|(refine .inr ?_;simp [qo,qm,qh,qg,SO.hasSl,List.all_map,qi,SV.cells,Function.comp_def];done)))|((refine qk (hT ..) rfl rfl ?_ rfl ?_);(focus first|exact .inl rfl|exact .inr rfl|(refine .inr ?_;simp [qo,qm,qh,qg,SO.hasSl,List.all_map,qi,SV.cells,Function.comp_def];done)))|((refine qk (xt d hL) rfl rfl ?_ rfl ?_);(focus first|exact .inl rfl|exact .inr rfl|(refine .inr ?_;simp [qo,qm,qh,qg,SO.hasSl,List.all_map,qi,SV.cells,Function.comp_def];done)))|((refine qk (s_doI d t ht (QR hok hst) hL.fl) rfl rfl ?_ rfl ?_);(focus first|exact .inl rfl|exact .inr rfl|(refine .inr ?_;simp [qo,qm,qh,qg,SO.hasSl,List.all_map,qi,SV.cells,Function.comp_def];done))))|((with_reducible refine eK ?_);first|(with_reducible first|refine qT ?_|refine qU ?_)|((with_reducible refine qr ?_ ?_)<;>intro h))|((with_reducible refine eO ?_);first|refine qe rfl ?_|(refine qB rfl ?_ ?_<;>intro h<;>try (exfalso;simp_all;done))|refine qb rfl ?_|(refine qF rfl ?_ rfl ?_;(focus omega))|(refine qt rfl ?_ rfl ?_ ?_;(focus omega);(all_goals intro h)))|((with_reducible refine eD ?_);first|refine qe rfl ?_|refine qb rfl ?_|((with_reducible refine qC ?_ ?_)<;>intro h))|refine qq rfl ?_)
    all_goals exact ⟨rfl, rfl⟩
theorem Jh (d : TDisk) (t : TStep) (hL : DLen d) (ht : TLenS t) : Ex (fun m => qd prg m 30 [qR d, zc t] []) (rDo (yk d t)) [] := by
  refine zz.1 ?_
  have hD := kN d hL
  have hT := Zy t ht
  cases hok : q7 d <;> cases hst : zO t
  all_goals (unfold yk; rw [hok, hst]; rw [hok] at hD; rw [hst] at hT)
  · (refine U30 (nl := 0) rfl ?_; unfold B30)
    repeat' (first|((with_reducible refine eG ?_);first|(with_reducible first|refine qX ?_|refine qY ?_|refine qZ ?_|refine q4 ?_|refine zm ?_)|refine qe rfl ?_|refine qb rfl ?_|((with_reducible refine zn ?_ ?_)<;>intro h))|((with_reducible refine eC ?_);first|((refine qk (hD ..) rfl rfl ?_ rfl ?_);(focus first|exact .inl rfl|exact .inr rfl|(refine .inr ?_;simp [qo,qm,qh,qg,SO.hasSl,List.all_map,qi,SV.cells,Function.comp_def];done)))|((refine qk (hT ..) rfl rfl ?_ rfl ?_);(focus first|exact .inl rfl|exact .inr rfl|(refine .inr ?_;simp [qo,qm,qh,qg,SO.hasSl,List.all_map,qi,SV.cells,Function.comp_def];done))))|((with_reducible refine eK ?_);first|(with_reducible first|refine qT ?_|refine qU ?_)|((with_reducible refine qr ?_ ?_)<;>intro h))|((with_reducible refine eO ?_);first|refine qe rfl ?_|(refine qB rfl ?_ ?_<;>intro h<;>try (exfalso;simp_all;done))|refine qb rfl ?_|(refine qF rfl ?_ rfl ?_;(focus omega))|(refine qt rfl ?_ rfl ?_ ?_;(focus omega);(all_goals intro h)))|((with_reducible refine eD ?_);first|refine qe rfl ?_|refine qb rfl ?_|((with_reducible refine qC ?_ ?_)<;>intro h))|((with_reducible refine zg ?_ ?_);· intro _;rfl)|refine qq rfl ?_)
    all_goals exact ⟨rfl, rfl⟩
  · (refine U30 (nl := 0) rfl ?_; unfold B30)
    repeat' (first|((with_reducible refine eG ?_);first|(with_reducible first|refine qX ?_|refine qY ?_|refine qZ ?_|refine q4 ?_|refine zm ?_)|refine qe rfl ?_|refine qb rfl ?_|((with_reducible refine zn ?_ ?_)<;>intro h))|((with_reducible refine eC ?_);first|((refine qk (hD ..) rfl rfl ?_ rfl ?_);(focus first|exact .inl rfl|exact .inr rfl|(refine .inr ?_;simp [qo,qm,qh,qg,SO.hasSl,List.all_map,qi,SV.cells,Function.comp_def];done)))|((refine qk (hT ..) rfl rfl ?_ rfl ?_);(focus first|exact .inl rfl|exact .inr rfl|(refine .inr ?_;simp [qo,qm,qh,qg,SO.hasSl,List.all_map,qi,SV.cells,Function.comp_def];done))))|((with_reducible refine eK ?_);first|(with_reducible first|refine qT ?_|refine qU ?_)|((with_reducible refine qr ?_ ?_)<;>intro h))|((with_reducible refine eO ?_);first|refine qe rfl ?_|(refine qB rfl ?_ ?_<;>intro h<;>try (exfalso;simp_all;done))|refine qb rfl ?_|(refine qF rfl ?_ rfl ?_;(focus omega))|(refine qt rfl ?_ rfl ?_ ?_;(focus omega);(all_goals intro h)))|((with_reducible refine eD ?_);first|refine qe rfl ?_|refine qb rfl ?_|((with_reducible refine qC ?_ ?_)<;>intro h))|((with_reducible refine zg ?_ ?_);· intro _;rfl)|refine qq rfl ?_)
    all_goals exact ⟨rfl, rfl⟩
  · (refine U30 (nl := 0) rfl ?_; unfold B30)
    repeat' (first|((with_reducible refine eG ?_);first|(with_reducible first|refine qX ?_|refine qY ?_|refine qZ ?_|refine q4 ?_|refine zm ?_)|refine qe rfl ?_|refine qb rfl ?_|((with_reducible refine zn ?_ ?_)<;>intro h))|((with_reducible refine eC ?_);first|((refine qk (hD ..) rfl rfl ?_ rfl ?_);(focus first|exact .inl rfl|exact .inr rfl|(refine .inr ?_;simp [qo,qm,qh,qg,SO.hasSl,List.all_map,qi,SV.cells,Function.comp_def];done)))|((refine qk (hT ..) rfl rfl ?_ rfl ?_);(focus first|exact .inl rfl|exact .inr rfl|(refine .inr ?_;simp [qo,qm,qh,qg,SO.hasSl,List.all_map,qi,SV.cells,Function.comp_def];done))))|((with_reducible refine eK ?_);first|(with_reducible first|refine qT ?_|refine qU ?_)|((with_reducible refine qr ?_ ?_)<;>intro h))|((with_reducible refine eO ?_);first|refine qe rfl ?_|(refine qB rfl ?_ ?_<;>intro h<;>try (exfalso;simp_all;done))|refine qb rfl ?_|(refine qF rfl ?_ rfl ?_;(focus omega))|(refine qt rfl ?_ rfl ?_ ?_;(focus omega);(all_goals intro h)))|((with_reducible refine eD ?_);first|refine qe rfl ?_|refine qb rfl ?_|((with_reducible refine qC ?_ ?_)<;>intro h))|((with_reducible refine zg ?_ ?_);· intro _;rfl)|refine qq rfl ?_)
    all_goals exact ⟨rfl, rfl⟩
  · (refine U30 (nl := 0) rfl ?_; unfold B30)
    repeat' (first|((with_reducible refine eG ?_);first|(with_reducible first|refine qX ?_|refine qY ?_|refine qZ ?_|refine q4 ?_|refine zm ?_)|refine qe rfl ?_|refine qb rfl ?_|((with_reducible refine zn ?_ ?_)<;>intro h))|((with_reducible refine eC ?_);first|((refine qk (hD ..) rfl rfl ?_ rfl ?_);(focus first|exact .inl rfl|exact .inr rfl|(refine .inr ?_;simp [qo,qm,qh,qg,SO.hasSl,List.all_map,qi,SV.cells,Function.comp_def];done)))|((refine qk (hT ..) rfl rfl ?_ rfl ?_);(focus first|exact .inl rfl|exact .inr rfl|(refine .inr ?_;simp [qo,qm,qh,qg,SO.hasSl,List.all_map,qi,SV.cells,Function.comp_def];done)))|((refine qk (ZH d hL) rfl rfl ?_ rfl ?_);(focus first|exact .inl rfl|exact .inr rfl|(refine .inr ?_;simp [qo,qm,qh,qg,SO.hasSl,List.all_map,qi,SV.cells,Function.comp_def];done)))|((refine qk (YI d t (QR hok hst) hL.fl) rfl rfl ?_ rfl ?_);(focus first|exact .inl rfl|exact .inr rfl|(refine .inr ?_;simp [qo,qm,qh,qg,SO.hasSl,List.all_map,qi,SV.cells,Function.comp_def];done))))|((with_reducible refine eK ?_);first|(with_reducible first|refine qT ?_|refine qU ?_)|((with_reducible refine qr ?_ ?_)<;>intro h))|((with_reducible refine eO ?_);first|refine qe rfl ?_|(refine qB rfl ?_ ?_<;>intro h<;>try (exfalso;simp_all;done))|refine qb rfl ?_|(refine qF rfl ?_ rfl ?_;(focus omega))|(refine qt rfl ?_ rfl ?_ ?_;(focus omega);(all_goals intro h)))|((with_reducible refine eD ?_);first|refine qe rfl ?_|refine qb rfl ?_|((with_reducible refine qC ?_ ?_)<;>intro h))|((with_reducible refine zg ?_ ?_);· intro _;rfl)|refine qq rfl ?_)
    all_goals exact ⟨rfl, rfl⟩
theorem ja (d : TDisk) (t : TStep) (hL : DLen d) (ht : TLenS t) : Ex (fun m => qd prg m 28 [qR d, zc t] []) (rDo (yk d t)) [] := by
  refine zz.1 ?_
  have hD := w6 d hL
  have hT := Zz t ht
  cases hok : q7 d <;> cases hst : zO t
  all_goals (unfold yk; rw [hok, hst]; rw [hok] at hD; rw [hst] at hT)
  · (refine U28 (nl := 0) rfl ?_; unfold B28)
    repeat' (first|((with_reducible refine eG ?_);first|(with_reducible first|refine qX ?_|refine qY ?_|refine qZ ?_|refine q4 ?_|refine zm ?_)|refine qe rfl ?_|refine qb rfl ?_|((with_reducible refine zn ?_ ?_)<;>intro h))|((with_reducible refine eC ?_);first|((refine qk (hD ..) rfl rfl ?_ rfl ?_);(focus first|exact .inl rfl|exact .inr rfl|(refine .inr ?_;simp [qo,qm,qh,qg,SO.hasSl,List.all_map,qi,SV.cells,Function.comp_def];done)))|((refine qk (hT ..) rfl rfl ?_ rfl ?_);(focus first|exact .inl rfl|exact .inr rfl|(refine .inr ?_;simp [qo,qm,qh,qg,SO.hasSl,List.all_map,qi,SV.cells,Function.comp_def];done))))|((with_reducible refine eK ?_);first|(with_reducible first|refine qT ?_|refine qU ?_)|((with_reducible refine qr ?_ ?_)<;>intro h))|((with_reducible refine eO ?_);first|refine qe rfl ?_|(refine qB rfl ?_ ?_<;>intro h<;>try (exfalso;simp_all;done))|refine qb rfl ?_|(refine qF rfl ?_ rfl ?_;(focus omega))|(refine qt rfl ?_ rfl ?_ ?_;(focus omega);(all_goals intro h)))|((with_reducible refine eD ?_);first|refine qe rfl ?_|refine qb rfl ?_|((with_reducible refine qC ?_ ?_)<;>intro h))|refine qq rfl ?_)
    all_goals exact ⟨rfl, rfl⟩
  · (refine U28 (nl := 0) rfl ?_; unfold B28)
    repeat' (first|((with_reducible refine eG ?_);first|(with_reducible first|refine qX ?_|refine qY ?_|refine qZ ?_|refine q4 ?_|refine zm ?_)|refine qe rfl ?_|refine qb rfl ?_|((with_reducible refine zn ?_ ?_)<;>intro h))|((with_reducible refine eC ?_);first|((refine qk (hD ..) rfl rfl ?_ rfl ?_);(focus first|exact .inl rfl|exact .inr rfl|(refine .inr ?_;simp [qo,qm,qh,qg,SO.hasSl,List.all_map,qi,SV.cells,Function.comp_def];done)))|((refine qk (hT ..) rfl rfl ?_ rfl ?_);(focus first|exact .inl rfl|exact .inr rfl|(refine .inr ?_;simp [qo,qm,qh,qg,SO.hasSl,List.all_map,qi,SV.cells,Function.comp_def];done))))|((with_reducible refine eK ?_);first|(with_reducible first|refine qT ?_|refine qU ?_)|((with_reducible refine qr ?_ ?_)<;>intro h))|((with_reducible refine eO ?_);first|refine qe rfl ?_|(refine qB rfl ?_ ?_<;>intro h<;>try (exfalso;simp_all;done))|refine qb rfl ?_|(refine qF rfl ?_ rfl ?_;(focus omega))|(refine qt rfl ?_ rfl ?_ ?_;(focus omega);(all_goals intro h)))|((with_reducible refine eD ?_);first|refine qe rfl ?_|refine qb rfl ?_|((with_reducible refine qC ?_ ?_)<;>intro h))|refine qq rfl ?_)
    all_goals exact ⟨rfl, rfl⟩
  · (refine U28 (nl := 0) rfl ?_; unfold B28)
    repeat' (first|((with_reducible refine eG ?_);first|(with_reducible first|refine qX ?_|refine qY ?_|refine qZ ?_|refine q4 ?_|refine zm ?_)|refine qe rfl ?_|refine qb rfl ?_|((with_reducible refine zn ?_ ?_)<;>intro h))|((with_reducible refine eC ?_);first|((refine qk (hD ..) rfl rfl ?_ rfl ?_);(focus first|exact .inl rfl|exact .inr rfl|(refine .inr ?_;simp [qo,qm,qh,qg,SO.hasSl,List.all_map,qi,SV.cells,Function.comp_def];done)))|((refine qk (hT ..) rfl rfl ?_ rfl ?_);(focus first|exact .inl rfl|exact .inr rfl|(refine .inr ?_;simp [qo,qm,qh,qg,SO.hasSl,List.all_map,qi,SV.cells,Function.comp_def];done))))|((with_reducible refine eK ?_);first|(with_reducible first|refine qT ?_|refine qU ?_)|((with_reducible refine qr ?_ ?_)<;>intro h))|((with_reducible refine eO ?_);first|refine qe rfl ?_|(refine qB rfl ?_ ?_<;>intro h<;>try (exfalso;simp_all;done))|refine qb rfl ?_|(refine qF rfl ?_ rfl ?_;(focus omega))|(refine qt rfl ?_ rfl ?_ ?_;(focus omega);(all_goals intro h)))|((with_reducible refine eD ?_);first|refine qe rfl ?_|refine qb rfl ?_|((with_reducible refine qC ?_ ?_)<;>intro h))|refine qq rfl ?_)
    all_goals exact ⟨rfl, rfl⟩
  · (refine U28 (nl := 0) rfl ?_; unfold B28)
    repeat' (first|((with_reducible refine eG ?_);first|(with_reducible first|refine qX ?_|refine qY ?_|refine qZ ?_|refine q4 ?_|refine zm ?_)|refine qe rfl ?_|refine qb rfl ?_|((with_reducible refine zn ?_ ?_)<;>intro h))|((with_reducible refine eC ?_);first|((refine qk (hD ..) rfl rfl ?_ rfl ?_);(focus first|exact .inl rfl|exact .inr rfl|(refine .inr ?_;simp [qo,qm,qh,qg,SO.hasSl,List.all_map,qi,SV.cells,Function.comp_def];done)))|((refine qk (hT ..) rfl rfl ?_ rfl ?_);(focus first|exact .inl rfl|exact .inr rfl|(refine .inr ?_;simp [qo,qm,qh,qg,SO.hasSl,List.all_map,qi,SV.cells,Function.comp_def];done)))|((refine qk (xt d hL) rfl rfl ?_ rfl ?_);(focus first|exact .inl rfl|exact .inr rfl|(refine .inr ?_;simp [qo,qm,qh,qg,SO.hasSl,List.all_map,qi,SV.cells,Function.comp_def];done)))|((refine qk (qfi d t (QR hok hst) hL.fl) rfl rfl ?_ rfl ?_);(focus first|exact .inl rfl|exact .inr rfl|(refine .inr ?_;simp [qo,qm,qh,qg,SO.hasSl,List.all_map,qi,SV.cells,Function.comp_def];done))))|((with_reducible refine eK ?_);first|(with_reducible first|refine qT ?_|refine qU ?_)|((with_reducible refine qr ?_ ?_)<;>intro h))|((with_reducible refine eO ?_);first|refine qe rfl ?_|(refine qB rfl ?_ ?_<;>intro h<;>try (exfalso;simp_all;done))|refine qb rfl ?_|(refine qF rfl ?_ rfl ?_;(focus omega))|(refine qt rfl ?_ rfl ?_ ?_;(focus omega);(all_goals intro h)))|((with_reducible refine eD ?_);first|refine qe rfl ?_|refine qb rfl ?_|((with_reducible refine qC ?_ ?_)<;>intro h))|refine qq rfl ?_)
    all_goals exact ⟨rfl, rfl⟩
theorem xu (d : TDisk) (hL : DLen d) : Ex (fun m => qd prg m 33 [qR d] []) (.sl 4 ((zp d).map zc)) [] := by
  refine zz.1 ?_
  have hD := kN d hL
  cases hok : q7 d
  all_goals (unfold zp; rw [hok]; rw [hok] at hD)
  · (refine U33 (nl := 0) rfl ?_; unfold B33)
    repeat' (first|((with_reducible refine eC ?_);first|((refine qk (hD ..) rfl rfl ?_ rfl ?_);(focus first|exact .inl rfl|exact .inr rfl|(refine .inr ?_;simp [qo,qm,qh,qg,SO.hasSl,List.all_map,qi,SV.cells,Function.comp_def];done))))|((with_reducible refine eK ?_);first|(with_reducible first|refine qT ?_|refine qU ?_)|((with_reducible refine qr ?_ ?_)<;>intro h))|((with_reducible refine eO ?_);first|refine qe rfl ?_|(refine qB rfl ?_ ?_<;>intro h<;>try (exfalso;simp_all;done))|refine qb rfl ?_|(refine qF rfl ?_ rfl ?_;(focus omega))|(refine qt rfl ?_ rfl ?_ ?_;(focus omega);(all_goals intro h))|(refine zP rfl rfl rfl ?_ ?_ ?_;(·simp);(·first|omega|(simp only [List.length_cons,List.length_nil,List.length_map,List.length_append];omega));intro w))|((with_reducible refine eD ?_);first|refine qe rfl ?_|refine qb rfl ?_)|refine qq rfl ?_)
    all_goals exact ⟨rfl, rfl⟩
  · (refine U33 (nl := 0) rfl ?_; unfold B33)
    repeat' (first|((with_reducible refine eC ?_);first|((refine qk (hD ..) rfl rfl ?_ rfl ?_);(focus first|exact .inl rfl|exact .inr rfl|(refine .inr ?_;simp [qo,qm,qh,qg,SO.hasSl,List.all_map,qi,SV.cells,Function.comp_def];done)))|((refine qk (qb9 d hL.jl hL.jp (kR (zI.1 hok).2.2.2.1) (zD hok)) rfl rfl ?_ rfl ?_);(focus first|exact .inl rfl|exact .inr rfl|(refine .inr ?_;simp [qo,qm,qh,qg,SO.hasSl,List.all_map,qi,SV.cells,Function.comp_def];done))))|((with_reducible refine eK ?_);first|(with_reducible first|refine qT ?_|refine qU ?_)|((with_reducible refine qr ?_ ?_)<;>intro h))|((with_reducible refine eO ?_);first|refine qe rfl ?_|(refine qB rfl ?_ ?_<;>intro h<;>try (exfalso;simp_all;done))|refine qb rfl ?_|(refine qF rfl ?_ rfl ?_;(focus omega))|(refine qt rfl ?_ rfl ?_ ?_;(focus omega);(all_goals intro h))|(refine zP rfl rfl rfl ?_ ?_ ?_;(·simp);(·first|omega|(simp only [List.length_cons,List.length_nil,List.length_map,List.length_append];omega));intro w))|((with_reducible refine eD ?_);first|refine qe rfl ?_|refine qb rfl ?_)|refine qq rfl ?_)
    all_goals exact ⟨rfl, rfl⟩
theorem ev_sl3 {α : Type} {f : α → SV} {T : Tab} {os : List SO} {t sz : Nat} {l : List α} {F : Nat → SV → List SO → Out} {Q} (hu : (wc T t).isSome = true) (h2 : Ev (fun n => F n (.sl sz (l.map f)) os) Q) :
    Ev (fun n => bd (qc (jQ T t (.sl sz (l.map f)) (.v (.int .i64 (l.length : Int))) (.v (.int .i64 (l.length : Int)))) os) (F n)) Q := by
  obtain ⟨s, hs⟩ := Option.isSome_iff_exists.1 hu
  obtain ⟨e, q, hu, hq, -⟩ := kg hs
  refine zH (x := .sl sz (l.map f)) (os := os) ?_ h2
  simp [jQ, hu, hq, qc]
theorem qca (l : List TStep) (hl : l.length ≤ 2000000) : Ex (fun m => qd prg m 66 [.sl 4 (l.map zc)] []) (.sl 4 (l.map zc)) [] := by
  refine zz.1 ?_
  (refine U66 (nl := 0) rfl ?_; unfold B66)
  repeat' (first|((with_reducible refine eL ?_);first|((with_reducible refine qI ?_ ?_);· rfl)|refine qy rfl rfl ?_|refine qG rfl rfl ?_|refine qz rfl rfl rfl ?_|refine qJ rfl rfl ?_|refine qH rfl rfl ?_|refine qK rfl ?_|refine qe rfl ?_|refine qb rfl ?_)|((with_reducible refine eD ?_);first|refine qe rfl ?_|refine qb rfl ?_|( (refine ev_sl3 rfl ?_)))|refine qq rfl ?_)
  all_goals exact ⟨rfl, rfl⟩
theorem kO (d : TDisk) (hL : DLen d) : Ex (fun m => qd prg m 32 [qR d] []) (.sl 4 ((zp d).map zc)) [] := by
  refine zz.1 ?_
  have hD := w6 d hL
  cases hok : q7 d
  all_goals (unfold zp; rw [hok]; rw [hok] at hD)
  · (refine U32 (nl := 0) rfl ?_; unfold B32)
    repeat' (first|((with_reducible refine eG ?_);first|(with_reducible first|refine qX ?_|refine qY ?_|refine qZ ?_|refine q4 ?_|refine zm ?_)|refine qe rfl ?_|refine qb rfl ?_|((with_reducible refine zn ?_ ?_)<;>intro h))|((with_reducible refine eC ?_);first|((refine qk (hD ..) rfl rfl ?_ rfl ?_);(focus first|exact .inl rfl|exact .inr rfl|(refine .inr ?_;simp [qo,qm,qh,qg,SO.hasSl,List.all_map,qi,SV.cells,Function.comp_def];done))))|((with_reducible refine eK ?_);first|(with_reducible first|refine qT ?_|refine qU ?_)|((with_reducible refine qr ?_ ?_)<;>intro h))|((with_reducible refine eO ?_);first|refine qe rfl ?_|(refine qB rfl ?_ ?_<;>intro h<;>try (exfalso;simp_all;done))|refine qb rfl ?_|(refine qF rfl ?_ rfl ?_;(focus omega))|(refine qt rfl ?_ rfl ?_ ?_;(focus omega);(all_goals intro h)))|((with_reducible refine eD ?_);first|refine qe rfl ?_|refine qb rfl ?_|((with_reducible refine qC ?_ ?_)<;>intro h))|refine qq rfl ?_)
    all_goals exact ⟨rfl, rfl⟩
  · have hl := yK d d.jour
    (refine U32 (nl := 0) rfl ?_; unfold B32)
    repeat' (first|((with_reducible refine eG ?_);first|(with_reducible first|refine qX ?_|refine qY ?_|refine qZ ?_|refine q4 ?_|refine zm ?_)|refine qe rfl ?_|refine qb rfl ?_|((with_reducible refine zn ?_ ?_)<;>intro h))|((with_reducible refine eC ?_);first|((refine qk (hD ..) rfl rfl ?_ rfl ?_);(focus first|exact .inl rfl|exact .inr rfl|(refine .inr ?_;simp [qo,qm,qh,qg,SO.hasSl,List.all_map,qi,SV.cells,Function.comp_def];done)))|((refine qk (KJ d d.jour hL.jl hL.jp (zI.1 hok).2.2.2.1 (zD hok)) rfl rfl ?_ rfl ?_);(focus first|exact .inl rfl|exact .inr rfl|(refine .inr ?_;simp [qo,qm,qh,qg,SO.hasSl,List.all_map,qi,SV.cells,Function.comp_def];done)))|((refine qk (qca _ (by omega)) rfl rfl ?_ rfl ?_);(focus first|exact .inl rfl|exact .inr rfl|(refine .inr ?_;simp [qo,qm,qh,qg,SO.hasSl,List.all_map,qi,SV.cells,Function.comp_def];done))))|((with_reducible refine eK ?_);first|(with_reducible first|refine qT ?_|refine qU ?_)|((with_reducible refine qr ?_ ?_)<;>intro h))|((with_reducible refine eO ?_);first|refine qe rfl ?_|(refine qB rfl ?_ ?_<;>intro h<;>try (exfalso;simp_all;done))|refine qb rfl ?_|(refine qF rfl ?_ rfl ?_;(focus omega))|(refine qt rfl ?_ rfl ?_ ?_;(focus omega);(all_goals intro h)))|((with_reducible refine eD ?_);first|refine qe rfl ?_|refine qb rfl ?_|((with_reducible refine qC ?_ ?_)<;>intro h))|refine qq rfl ?_)
    all_goals first
      | (unfold za; rw [if_pos rfl, if_pos (by assumption)]; exact ⟨rfl, rfl⟩)
      | (unfold za; rw [if_pos rfl, if_neg (by simp [*])]; exact ⟨rfl, rfl⟩)
      | trace_state
theorem QA (d : TDisk) (s : List TPkg) (hL : DLen d) (hs : s.length ≤ 2000000) (hp0 : PL s) : Ex (fun m => qd prg m 39 [qR d, .sl 4 (s.map zh)] []) (.sl 4 ((w9 d s).map zc)) [] := by
  refine zz.1 ?_
  have hD := Zx d hL
  have hP := xm s hs hp0
  cases hok : diskTrue d <;> cases hst : zo s
  all_goals (unfold w9; rw [hok, hst]; rw [hok] at hD; rw [hst] at hP)
  · (refine U39 (nl := 0) rfl ?_; unfold B39)
    repeat' (first|((with_reducible refine eG ?_);first|(with_reducible first|refine qX ?_|refine qY ?_|refine qZ ?_|refine q4 ?_|refine zm ?_)|refine qe rfl ?_|refine qb rfl ?_|((with_reducible refine zn ?_ ?_)<;>intro h))|((with_reducible refine eC ?_);first|((refine qk (hD ..) rfl rfl ?_ rfl ?_);(focus first|exact .inl rfl|exact .inr rfl|(refine .inr ?_;simp [qo,qm,qh,qg,SO.hasSl,List.all_map,qi,SV.cells,Function.comp_def];done)))|((refine qk (hP ..) rfl rfl ?_ rfl ?_);(focus first|exact .inl rfl|exact .inr rfl|(refine .inr ?_;simp [qo,qm,qh,qg,SO.hasSl,List.all_map,qi,SV.cells,Function.comp_def];done))))|((with_reducible refine eK ?_);first|(with_reducible first|refine qT ?_|refine qU ?_)|((with_reducible refine qr ?_ ?_)<;>intro h))|((with_reducible refine eO ?_);first|refine qe rfl ?_|(refine qB rfl ?_ ?_<;>intro h<;>try (exfalso;simp_all;done))|refine qb rfl ?_|(refine qF rfl ?_ rfl ?_;(focus omega))|(refine qt rfl ?_ rfl ?_ ?_;(focus omega);(all_goals intro h))|(refine zP rfl rfl rfl ?_ ?_ ?_;(·simp);(·first|omega|(simp only [List.length_cons,List.length_nil,List.length_map,List.length_append];omega));intro w))|((with_reducible refine eD ?_);first|refine qe rfl ?_|refine qb rfl ?_|((with_reducible refine qC ?_ ?_)<;>intro h))|refine qq rfl ?_)
    all_goals exact ⟨rfl, rfl⟩
  · (refine U39 (nl := 0) rfl ?_; unfold B39)
    repeat' (first|((with_reducible refine eG ?_);first|(with_reducible first|refine qX ?_|refine qY ?_|refine qZ ?_|refine q4 ?_|refine zm ?_)|refine qe rfl ?_|refine qb rfl ?_|((with_reducible refine zn ?_ ?_)<;>intro h))|((with_reducible refine eC ?_);first|((refine qk (hD ..) rfl rfl ?_ rfl ?_);(focus first|exact .inl rfl|exact .inr rfl|(refine .inr ?_;simp [qo,qm,qh,qg,SO.hasSl,List.all_map,qi,SV.cells,Function.comp_def];done)))|((refine qk (hP ..) rfl rfl ?_ rfl ?_);(focus first|exact .inl rfl|exact .inr rfl|(refine .inr ?_;simp [qo,qm,qh,qg,SO.hasSl,List.all_map,qi,SV.cells,Function.comp_def];done))))|((with_reducible refine eK ?_);first|(with_reducible first|refine qT ?_|refine qU ?_)|((with_reducible refine qr ?_ ?_)<;>intro h))|((with_reducible refine eO ?_);first|refine qe rfl ?_|(refine qB rfl ?_ ?_<;>intro h<;>try (exfalso;simp_all;done))|refine qb rfl ?_|(refine qF rfl ?_ rfl ?_;(focus omega))|(refine qt rfl ?_ rfl ?_ ?_;(focus omega);(all_goals intro h))|(refine zP rfl rfl rfl ?_ ?_ ?_;(·simp);(·first|omega|(simp only [List.length_cons,List.length_nil,List.length_map,List.length_append];omega));intro w))|((with_reducible refine eD ?_);first|refine qe rfl ?_|refine qb rfl ?_|((with_reducible refine qC ?_ ?_)<;>intro h))|refine qq rfl ?_)
    all_goals exact ⟨rfl, rfl⟩
  · (refine U39 (nl := 0) rfl ?_; unfold B39)
    repeat' (first|((with_reducible refine eG ?_);first|(with_reducible first|refine qX ?_|refine qY ?_|refine qZ ?_|refine q4 ?_|refine zm ?_)|refine qe rfl ?_|refine qb rfl ?_|((with_reducible refine zn ?_ ?_)<;>intro h))|((with_reducible refine eC ?_);first|((refine qk (hD ..) rfl rfl ?_ rfl ?_);(focus first|exact .inl rfl|exact .inr rfl|(refine .inr ?_;simp [qo,qm,qh,qg,SO.hasSl,List.all_map,qi,SV.cells,Function.comp_def];done)))|((refine qk (hP ..) rfl rfl ?_ rfl ?_);(focus first|exact .inl rfl|exact .inr rfl|(refine .inr ?_;simp [qo,qm,qh,qg,SO.hasSl,List.all_map,qi,SV.cells,Function.comp_def];done))))|((with_reducible refine eK ?_);first|(with_reducible first|refine qT ?_|refine qU ?_)|((with_reducible refine qr ?_ ?_)<;>intro h))|((with_reducible refine eO ?_);first|refine qe rfl ?_|(refine qB rfl ?_ ?_<;>intro h<;>try (exfalso;simp_all;done))|refine qb rfl ?_|(refine qF rfl ?_ rfl ?_;(focus omega))|(refine qt rfl ?_ rfl ?_ ?_;(focus omega);(all_goals intro h))|(refine zP rfl rfl rfl ?_ ?_ ?_;(·simp);(·first|omega|(simp only [List.length_cons,List.length_nil,List.length_map,List.length_append];omega));intro w))|((with_reducible refine eD ?_);first|refine qe rfl ?_|refine qb rfl ?_|((with_reducible refine qC ?_ ?_)<;>intro h))|refine qq rfl ?_)
    all_goals exact ⟨rfl, rfl⟩
  · (refine U39 (nl := 0) rfl ?_; unfold B39)
    repeat' (first|((with_reducible refine eG ?_);first|(with_reducible first|refine qX ?_|refine qY ?_|refine qZ ?_|refine q4 ?_|refine zm ?_)|refine qe rfl ?_|refine qb rfl ?_|((with_reducible refine zn ?_ ?_)<;>intro h))|((with_reducible refine eC ?_);first|((refine qk (hD ..) rfl rfl ?_ rfl ?_);(focus first|exact .inl rfl|exact .inr rfl|(refine .inr ?_;simp [qo,qm,qh,qg,SO.hasSl,List.all_map,qi,SV.cells,Function.comp_def];done)))|((refine qk (hP ..) rfl rfl ?_ rfl ?_);(focus first|exact .inl rfl|exact .inr rfl|(refine .inr ?_;simp [qo,qm,qh,qg,SO.hasSl,List.all_map,qi,SV.cells,Function.comp_def];done)))|((refine qk (KI d s hs hp0 (kR hst) (zD (by unfold diskTrue at hok;simp only [Bool.and_eq_true] at hok;exact hok.1.1))) rfl rfl ?_ rfl ?_);(focus first|exact .inl rfl|exact .inr rfl|(refine .inr ?_;simp [qo,qm,qh,qg,SO.hasSl,List.all_map,qi,SV.cells,Function.comp_def];done))))|((with_reducible refine eK ?_);first|(with_reducible first|refine qT ?_|refine qU ?_)|((with_reducible refine qr ?_ ?_)<;>intro h))|((with_reducible refine eO ?_);first|refine qe rfl ?_|(refine qB rfl ?_ ?_<;>intro h<;>try (exfalso;simp_all;done))|refine qb rfl ?_|(refine qF rfl ?_ rfl ?_;(focus omega))|(refine qt rfl ?_ rfl ?_ ?_;(focus omega);(all_goals intro h))|(refine zP rfl rfl rfl ?_ ?_ ?_;(·simp);(·first|omega|(simp only [List.length_cons,List.length_nil,List.length_map,List.length_append];omega));intro w))|((with_reducible refine eD ?_);first|refine qe rfl ?_|refine qb rfl ?_|((with_reducible refine qC ?_ ?_)<;>intro h))|refine qq rfl ?_)
    all_goals exact ⟨rfl, rfl⟩
theorem QB (d : TDisk) (s : List TPkg) (hL : DLen d) (hs : s.length ≤ 2000000) (hp0 : PL s) : Ex (fun m => qd prg m 38 [qR d, .sl 4 (s.map zh)] []) (.sl 4 ((w9 d s).map zc)) [] := by
  refine zz.1 ?_
  have hD := yW d hL
  have hP := xp s hs hp0
  cases hok : diskTrue d <;> cases hst : zo s
  all_goals (unfold w9; rw [hok, hst]; rw [hok] at hD; rw [hst] at hP)
  · (refine U38 (nl := 0) rfl ?_; unfold B38)
    repeat' (first|((with_reducible refine eG ?_);first|(with_reducible first|refine qX ?_|refine qY ?_|refine qZ ?_|refine q4 ?_|refine zm ?_)|refine qe rfl ?_|refine qb rfl ?_|((with_reducible refine zn ?_ ?_)<;>intro h))|((with_reducible refine eC ?_);first|((refine qk (hD ..) rfl rfl ?_ rfl ?_);(focus first|exact .inl rfl|exact .inr rfl|(refine .inr ?_;simp [qo,qm,qh,qg,SO.hasSl,List.all_map,qi,SV.cells,Function.comp_def];done)))|((refine qk (hP ..) rfl rfl ?_ rfl ?_);(focus first|exact .inl rfl|exact .inr rfl|(refine .inr ?_;simp [qo,qm,qh,qg,SO.hasSl,List.all_map,qi,SV.cells,Function.comp_def];done))))|((with_reducible refine eA ?_);first|(refine kU rfl rfl rfl rfl rfl ?_ ?_;· first|decide|(simp only [List.length_append,List.length_cons,List.length_nil,List.length_map,List.length_take,List.length_drop];omega)))|((with_reducible refine eK ?_);first|(with_reducible first|refine qT ?_|refine qU ?_)|((with_reducible refine qr ?_ ?_)<;>intro h))|((with_reducible refine eO ?_);first|refine qe rfl ?_|(refine qB rfl ?_ ?_<;>intro h<;>try (exfalso;simp_all;done))|refine qb rfl ?_|(refine qF rfl ?_ rfl ?_;(focus omega))|(refine qt rfl ?_ rfl ?_ ?_;(focus omega);(all_goals intro h))|(refine zP rfl rfl rfl ?_ ?_ ?_;(·simp);(·first|omega|(simp only [List.length_cons,List.length_nil,List.length_map,List.length_append];omega));intro w))|((with_reducible refine eD ?_);first|refine qe rfl ?_|refine qb rfl ?_|((with_reducible refine qC ?_ ?_)<;>intro h))|((with_reducible refine zg ?_ ?_);· intro _;rfl)|refine qq rfl ?_)
    all_goals exact ⟨rfl, rfl⟩
  · (refine U38 (nl := 0) rfl ?_; unfold B38)
    repeat' (first|((with_reducible refine eG ?_);first|(with_reducible first|refine qX ?_|refine qY ?_|refine qZ ?_|refine q4 ?_|refine zm ?_)|refine qe rfl ?_|refine qb rfl ?_|((with_reducible refine zn ?_ ?_)<;>intro h))|((with_reducible refine eC ?_);first|((refine qk (hD ..) rfl rfl ?_ rfl ?_);(focus first|exact .inl rfl|exact .inr rfl|(refine .inr ?_;simp [qo,qm,qh,qg,SO.hasSl,List.all_map,qi,SV.cells,Function.comp_def];done)))|((refine qk (hP ..) rfl rfl ?_ rfl ?_);(focus first|exact .inl rfl|exact .inr rfl|(refine .inr ?_;simp [qo,qm,qh,qg,SO.hasSl,List.all_map,qi,SV.cells,Function.comp_def];done))))|((with_reducible refine eA ?_);first|(refine kU rfl rfl rfl rfl rfl ?_ ?_;· first|decide|(simp only [List.length_append,List.length_cons,List.length_nil,List.length_map,List.length_take,List.length_drop];omega)))|((with_reducible refine eK ?_);first|(with_reducible first|refine qT ?_|refine qU ?_)|((with_reducible refine qr ?_ ?_)<;>intro h))|((with_reducible refine eO ?_);first|refine qe rfl ?_|(refine qB rfl ?_ ?_<;>intro h<;>try (exfalso;simp_all;done))|refine qb rfl ?_|(refine qF rfl ?_ rfl ?_;(focus omega))|(refine qt rfl ?_ rfl ?_ ?_;(focus omega);(all_goals intro h))|(refine zP rfl rfl rfl ?_ ?_ ?_;(·simp);(·first|omega|(simp only [List.length_cons,List.length_nil,List.length_map,List.length_append];omega));intro w))|((with_reducible refine eD ?_);first|refine qe rfl ?_|refine qb rfl ?_|((with_reducible refine qC ?_ ?_)<;>intro h))|((with_reducible refine zg ?_ ?_);· intro _;rfl)|refine qq rfl ?_)
    all_goals exact ⟨rfl, rfl⟩
  · (refine U38 (nl := 0) rfl ?_; unfold B38)
    repeat' (first|((with_reducible refine eG ?_);first|(with_reducible first|refine qX ?_|refine qY ?_|refine qZ ?_|refine q4 ?_|refine zm ?_)|refine qe rfl ?_|refine qb rfl ?_|((with_reducible refine zn ?_ ?_)<;>intro h))|((with_reducible refine eC ?_);first|((refine qk (hD ..) rfl rfl ?_ rfl ?_);(focus first|exact .inl rfl|exact .inr rfl|(refine .inr ?_;simp [qo,qm,qh,qg,SO.hasSl,List.all_map,qi,SV.cells,Function.comp_def];done)))|((refine qk (hP ..) rfl rfl ?_ rfl ?_);(focus first|exact .inl rfl|exact .inr rfl|(refine .inr ?_;simp [qo,qm,qh,qg,SO.hasSl,List.all_map,qi,SV.cells,Function.comp_def];done))))|((with_reducible refine eA ?_);first|(refine kU rfl rfl rfl rfl rfl ?_ ?_;· first|decide|(simp only [List.length_append,List.length_cons,List.length_nil,List.length_map,List.length_take,List.length_drop];omega)))|((with_reducible refine eK ?_);first|(with_reducible first|refine qT ?_|refine qU ?_)|((with_reducible refine qr ?_ ?_)<;>intro h))|((with_reducible refine eO ?_);first|refine qe rfl ?_|(refine qB rfl ?_ ?_<;>intro h<;>try (exfalso;simp_all;done))|refine qb rfl ?_|(refine qF rfl ?_ rfl ?_;(focus omega))|(refine qt rfl ?_ rfl ?_ ?_;(focus omega);(all_goals intro h))|(refine zP rfl rfl rfl ?_ ?_ ?_;(·simp);(·first|omega|(simp only [List.length_cons,List.length_nil,List.length_map,List.length_append];omega));intro w))|((with_reducible refine eD ?_);first|refine qe rfl ?_|refine qb rfl ?_|((with_reducible refine qC ?_ ?_)<;>intro h))|((with_reducible refine zg ?_ ?_);· intro _;rfl)|refine qq rfl ?_)
    all_goals exact ⟨rfl, rfl⟩
  · have hl := yK d s
    (refine U38 (nl := 0) rfl ?_; unfold B38)
    repeat' (first|((with_reducible refine eG ?_);first|(with_reducible first|refine qX ?_|refine qY ?_|refine qZ ?_|refine q4 ?_|refine zm ?_)|refine qe rfl ?_|refine qb rfl ?_|((with_reducible refine zn ?_ ?_)<;>intro h))|((with_reducible refine eC ?_);first|((refine qk (hD ..) rfl rfl ?_ rfl ?_);(focus first|exact .inl rfl|exact .inr rfl|(refine .inr ?_;simp [qo,qm,qh,qg,SO.hasSl,List.all_map,qi,SV.cells,Function.comp_def];done)))|((refine qk (hP ..) rfl rfl ?_ rfl ?_);(focus first|exact .inl rfl|exact .inr rfl|(refine .inr ?_;simp [qo,qm,qh,qg,SO.hasSl,List.all_map,qi,SV.cells,Function.comp_def];done)))|((refine qk (jF s hs hp0) rfl rfl ?_ rfl ?_);(focus first|exact .inl rfl|exact .inr rfl|(refine .inr ?_;simp [qo,qm,qh,qg,SO.hasSl,List.all_map,qi,SV.cells,Function.comp_def];done)))|((refine qk (KJ d s hs hp0 hst (zD (by unfold diskTrue at hok;simp only [Bool.and_eq_true] at hok;exact hok.1.1))) rfl rfl ?_ rfl ?_);(focus first|exact .inl rfl|exact .inr rfl|(refine .inr ?_;simp [qo,qm,qh,qg,SO.hasSl,List.all_map,qi,SV.cells,Function.comp_def];done))))|((with_reducible refine eA ?_);first|(refine kU rfl rfl rfl rfl rfl ?_ ?_;· first|decide|(simp only [List.length_append,List.length_cons,List.length_nil,List.length_map,List.length_take,List.length_drop];omega)))|((with_reducible refine eK ?_);first|(with_reducible first|refine qT ?_|refine qU ?_)|((with_reducible refine qr ?_ ?_)<;>intro h))|((with_reducible refine eO ?_);first|refine qe rfl ?_|(refine qB rfl ?_ ?_<;>intro h<;>try (exfalso;simp_all;done))|refine qb rfl ?_|(refine qF rfl ?_ rfl ?_;(focus omega))|(refine qt rfl ?_ rfl ?_ ?_;(focus omega);(all_goals intro h))|(refine zP rfl rfl rfl ?_ ?_ ?_;(·simp);(·first|omega|(simp only [List.length_cons,List.length_nil,List.length_map,List.length_append];omega));intro w))|((with_reducible refine eD ?_);first|refine qe rfl ?_|refine qb rfl ?_|((with_reducible refine qC ?_ ?_)<;>intro h))|((with_reducible refine zg ?_ ?_);· intro _;rfl)|(with_reducible refine ku ?_ ?_)|refine qq rfl ?_)
    all_goals exact ⟨rfl, rfl⟩
theorem qfm (t : TStep) (ht : TLenS t) : Ex (fun m => qd prg m 70 [zc t] []) (bB (!zO t)) [] := by
  refine zz.1 ?_
  have hT := Zz t ht
  cases hst : zO t
  all_goals rw [hst] at hT
  all_goals (refine U70 (nl := 0) rfl ?_; unfold B70)
  all_goals repeat' (first|((with_reducible refine eC ?_);first|((refine qk (hT ..) rfl rfl ?_ rfl ?_);(focus first|exact .inl rfl|exact .inr rfl|(refine .inr ?_;simp [qo,qm,qh,qg,SO.hasSl,List.all_map,qi,SV.cells,Function.comp_def];done))))|((with_reducible refine eO ?_);first|refine qe rfl ?_|(refine qB rfl ?_ ?_<;>intro h<;>try (exfalso;simp_all;done))|refine qb rfl ?_|(refine qF rfl ?_ rfl ?_;(focus omega))|(refine qt rfl ?_ rfl ?_ ?_;(focus omega);(all_goals intro h)))|((with_reducible refine eD ?_);first|refine qe rfl ?_|refine qb rfl ?_)|refine qq rfl ?_)
  all_goals exact ⟨rfl, rfl⟩
theorem qcb (l : List TStep) (hl : l.length ≤ 2000000) (ht : ∀ i, i < l.length → TLenS (nth l i)) : ∀ i : Nat, i ≤ l.length → (∀ j, j < i → zO (nth l j) = true) → ∀ (k : Int) (c : Nat), k = i →
    Ev (fun n => qbv (qd prg n) (n + 1) 0 (n + 1 - c) (.sl 4 (l.map zc)) (.fn 70 []) (iI l.length) (iI k) []) (fun y os => ∃ z : Int, y = iI z ∧ os = [] ∧ (0 ≤ z ↔ ¬ z9 l = true)) := by
  refine zC ?_
  intro i hi ih hp k c hk
  subst hk
  have h1 := ht i
  (refine UL88_2 ?_; unfold qee)
  repeat' (first|((with_reducible refine eB ?_);first|((with_reducible refine zf ?_ ?_)<;>intro h<;>try (exfalso;omega))|((with_reducible refine zi ?_ ?_);· omega)|refine qe rfl ?_|refine qb rfl ?_)|((with_reducible refine eI ?_);first|((with_reducible refine q5 ?_ ?_ ?_);(·rfl);· omega)|(refine qN rfl rfl ?_ ?_;(·first|omega|(simp only [List.length_cons,List.length_nil,List.length_map,List.length_append];omega)))|(refine qO rfl rfl ?_ ?_;(focus omega))|((with_reducible refine q9 ?_ ?_ ?_);(·rfl);· omega)|(refine qS rfl rfl ?_ ?_;(·first|omega|(simp only [List.length_cons,List.length_nil,List.length_map,List.length_append];omega)))|(refine qW rfl rfl ?_ ?_;(focus omega))|refine qe rfl ?_|refine qb rfl ?_)|((with_reducible refine eC ?_);first|((refine zT (qfm _ (ht i (by omega))) rfl rfl ?_ rfl rfl ?_ ?_);(focus first|exact .inl rfl|exact .inr rfl|(refine .inr ?_;simp [qo,qm,qh,qg,SO.hasSl,List.all_map,qi,SV.cells,Function.comp_def];done));(all_goals (intro h));(all_goals (try (exfalso;simp_all;done)))))|(with_reducible refine yJ ?_)|((with_reducible refine eK ?_);first|(with_reducible first|refine qT ?_|refine qU ?_)|((with_reducible refine qr ?_ ?_)<;>intro h))|((with_reducible refine eO ?_);first|refine qe rfl ?_|(refine qB rfl ?_ ?_<;>intro h<;>try (exfalso;simp_all;done))|refine qb rfl ?_|(refine qF rfl ?_ rfl ?_;(focus omega))|(refine qt rfl ?_ rfl ?_ ?_;(focus omega);(all_goals intro h)))|((with_reducible refine eD ?_);first|refine qe rfl ?_|refine qb rfl ?_)|((with_reducible refine ih ?_ (zR hp ?_) _ _ ?_)<;>(first|omega|assumption|((first|(simpa using h)|(simp_all;done)))|(simp only [*,List.map_append,List.length_append,List.length_cons,List.length_nil,List.map_cons,List.map_nil];done)|(simp_all;done)|(simp_all;omega)))|refine qq rfl ?_)
  · exact ⟨_, rfl, rfl, ⟨fun _ h9 => (by rw [of_decide_eq_true h9 i (by omega)] at h; cases h), fun _ => by omega⟩⟩
  · exact ⟨_, rfl, rfl, ⟨fun h9 => by omega, fun h9 => absurd (decide_eq_true fun j hj => hp j (by omega)) h9⟩⟩
theorem qhx (l : List TStep) (hl : l.length ≤ 2000000) (ht : ∀ i, i < l.length → TLenS (nth l i)) : ∃ z : Int, (0 ≤ z ↔ ¬ z9 l = true) ∧ Ex (fun m => qd prg m 88 [.sl 4 (l.map zc), .fn 70 []] []) (iI z) [] := by
  have key : Ev (fun m => qd prg m 88 [.sl 4 (l.map zc), .fn 70 []] []) (fun y os => ∃ z : Int, y = iI z ∧ os = [] ∧ (0 ≤ z ↔ ¬ z9 l = true)) := by
    (refine U88 (nl := 0) rfl ?_; unfold B88)
    repeat' (first|((with_reducible refine eL ?_);first|((with_reducible refine qI ?_ ?_);· rfl)|refine qy rfl rfl ?_|refine qG rfl rfl ?_|refine qz rfl rfl rfl ?_|refine qJ rfl rfl ?_|refine qH rfl rfl ?_|refine qK rfl ?_|refine qe rfl ?_|refine qb rfl ?_)|((with_reducible refine eD ?_);first|refine qe rfl ?_|refine qb rfl ?_)|( exact qcb l hl ht 0 (by omega) (fun j hj => by omega) 0 0 rfl)|refine qq rfl ?_)
  obtain ⟨_, _, ⟨z, rfl, rfl, hz⟩, he⟩ := key
  exact ⟨z, hz, he⟩
theorem qhy (l : List TStep) (hl : l.length ≤ 2000000) (ht : ∀ i, i < l.length → TLenS (nth l i)) : Ex (fun m => qd prg m 69 [.sl 4 (l.map zc), .fn 70 []] []) (bB (!z9 l)) [] := by
  refine zz.1 ?_
  (refine U69 (nl := 0) rfl ?_; unfold B69)
  repeat' (first|((with_reducible refine eB ?_);first|((with_reducible refine wk ?_ ?_)<;>intro h<;>try (exfalso;omega))|refine qe rfl ?_|refine qb rfl ?_)|((with_reducible refine eC ?_);first|((refine z5 (qhx l hl ht) rfl rfl ?_ (fun _ => rfl) ?_);(·first|exact .inl rfl|exact .inr (fun _ => rfl));(first|(have q0 := z3;clear q0;intro z4 hz4)|(have q0 := z2;clear q0;intro z3 hz3)|(have q0 := z;clear q0;intro z2 hz2)|(intro z hz))))|((with_reducible refine eD ?_);first|refine qe rfl ?_|refine qb rfl ?_)|refine qq rfl ?_)
  · exact ⟨congrArg bB (by have := hz.1 h; cases hh : z9 l; rfl; exact absurd hh this), rfl⟩
  · exact ⟨congrArg bB (by have := fun h9 => h (hz.2 h9); cases hh : z9 l; exact absurd (by rw [hh]; decide) this; rfl), rfl⟩
theorem qln {x y : Int} {os : List SO} {F : Nat → SV → List SO → Out} {Q} (h2 : Ev (fun n => F n (iI (min x y)) os) Q) : Ev (fun n => bd (qc (minS (.v (.int .i64 x)) (.v (.int .i64 y))) os) (F n)) Q := by
  refine zH (x := iI (min x y)) (os := os) ?_ h2
  have : (if y < x then y else x) = min x y := by split <;> omega
  simp [minS, qc, this]
theorem qhz {α : Type} [Inhabited α] (l : List α) {i n : Nat} (h : i < n) : nth (l.take n) i = nth l i := by
  unfold nth; rw [List.getD_eq_getElem?_getD, List.getD_eq_getElem?_getD, List.getElem?_take, if_pos h]
theorem Ji (d : TDisk) (l : List TStep) (hl : StepsIn l) (cut : Int) (torn : Bool) (hf : d.files.length = 6) (hcut : 0 ≤ cut) : ∀ i : Nat, i ≤ cutN l cut → ∀ (e : TDisk) (k : Int) (c : Nat), k = i → e = Qf d l i →
    Ev (fun n => qa3 (qd prg n) (n + 1) 0 (n + 1 - c) [.sl 4 (l.map zc), iI (min cut l.length), bB torn, .ptr 0 0, .ptr 1 0, .sl 4 ((l.take (min cut (l.length : Int)).toNat).map zc), iI (l.take (min cut (l.length : Int)).toNat).length, iI k]
      [.box [.osl 2, .osl 3, bB false, .osl 4], QE 5 e, .arr false 4 [], .arr false 1 [], .arr false 4 [], .arr false 1 (e.files.map iI)]) (Is (.tup [qR (toP d l cut torn), bB true]) []) := by
  refine zC ?_
  intro i hi ih e k c hk he
  subst hk
  have hef : e.files.length = 6 := by rw [he, wy, hf]
  have hll := hl.len
  have hin : ∀ j, j < l.length → inD e (nth l j) := fun j hj => by
    have := (hl.all j hj).2
    unfold inD; omega
  have hlim : (cutN l cut : Int) = min cut l.length := by unfold cutN; omega
  have htl : (l.take (min cut (l.length : Int)).toNat).length = cutN l cut := by rw [List.length_take]; unfold cutN; omega
  have hnt : i < cutN l cut → nth (l.take (min cut (l.length : Int)).toNat) i = nth l i := fun h9 => qhz l (by omega)
  have hdo : i < cutN l cut → Ex (fun m => qd prg m 60 [.ptr 0 0, zc (nth (l.take (min cut (l.length : Int)).toNat) i)] [QE 1 e, .arr true 1 (e.files.map iI)]) (.tup []) [QE 1 (doP e (nth l i)), .arr true 1 ((doP e (nth l i)).files.map iI)] := fun h9 => by
    rw [hnt h9]; exact s_doI e (nth l i) (hl.all i (by omega)).1 (hin i (by omega)) (by omega)
  cases torn
  all_goals (refine UG36_6 _ ?_; unfold qdJ)
  all_goals repeat' (first|((with_reducible refine eG ?_);first|(with_reducible first|refine qX ?_|refine qY ?_|refine qZ ?_|refine q4 ?_|refine zm ?_)|refine qe rfl ?_|refine qb rfl ?_|((with_reducible refine zn ?_ ?_)<;>intro h))|((with_reducible refine eB ?_);first|((with_reducible refine zf ?_ ?_)<;>intro h<;>try (exfalso;omega))|((with_reducible refine zi ?_ ?_);· omega)|refine qe rfl ?_|refine qb rfl ?_)|((with_reducible refine eL ?_);first|((with_reducible refine qI ?_ ?_);· rfl)|refine qy rfl rfl ?_|refine qG rfl rfl ?_|refine qz rfl rfl rfl ?_|refine qJ rfl rfl ?_|refine qH rfl rfl ?_|refine qK rfl ?_|refine qe rfl ?_|refine qb rfl ?_)|((with_reducible refine eI ?_);first|((with_reducible refine q5 ?_ ?_ ?_);(·rfl);· omega)|(refine qN rfl rfl ?_ ?_;(·first|omega|(simp only [List.length_cons,List.length_nil,List.length_map,List.length_append];omega)))|(refine qO rfl rfl ?_ ?_;(focus omega))|((with_reducible refine q9 ?_ ?_ ?_);(·rfl);· omega)|(refine qS rfl rfl ?_ ?_;(·first|omega|(simp only [List.length_cons,List.length_nil,List.length_map,List.length_append];omega)))|(refine qW rfl rfl ?_ ?_;(focus omega))|refine qe rfl ?_|refine qb rfl ?_)|((with_reducible refine eC ?_);first|((refine qk (hdo (by omega)) rfl rfl ?_ rfl ?_);(focus first|exact .inl rfl|exact .inr rfl|(refine .inr ?_;simp [qo,qm,qh,qg,SO.hasSl,List.all_map,qi,SV.cells,Function.comp_def];done)))|((refine qk (qfi e (nth l (min cut (l.length : Int)).toNat) (hin _ (by omega)) (by omega)) rfl rfl ?_ rfl ?_);(focus first|exact .inl rfl|exact .inr rfl|(refine .inr ?_;simp [qo,qm,qh,qg,SO.hasSl,List.all_map,qi,SV.cells,Function.comp_def];done))))|((with_reducible refine eK ?_);first|(with_reducible first|refine qT ?_|refine qU ?_)|((with_reducible refine qr ?_ ?_)<;>intro h))|((with_reducible refine eO ?_);first|refine qe rfl ?_|(refine qB rfl ?_ ?_<;>intro h<;>try (exfalso;simp_all;done))|refine qb rfl ?_|(refine qF rfl ?_ rfl ?_;(focus omega))|(refine qt rfl ?_ rfl ?_ ?_;(focus omega);(all_goals intro h)))|((with_reducible refine eD ?_);first|refine qe rfl ?_|refine qb rfl ?_|((with_reducible refine qC ?_ ?_)<;>intro h))|((with_reducible refine eH ?_);first|refine zA rfl ?_)|((with_reducible refine qjR ?_);(unfold Xu))|(with_reducible first|refine qev ?_|refine qim ?_)|((with_reducible refine ih ?_ _ _ _ ?_ ?_)<;>(first|omega|assumption|((first|(rw [jH (by omega),he])|omega))|(simp only [*,List.map_append,List.length_append,List.length_cons,List.length_nil,List.map_cons,List.map_nil];done)|(simp_all;done)|(simp_all;omega)))|refine qq rfl ?_)
  all_goals first
    | (obtain rfl : i = cutN l cut := by omega
       subst he
       first
       | (rw [qam]; exact ⟨rfl, rfl⟩)
       | (rw [qfj (by omega), show (cut : Int).toNat = (min cut (l.length : Int)).toNat by omega]; exact ⟨rfl, rfl⟩)
       | (rw [ZE (by omega)]; exact ⟨rfl, rfl⟩))
    | trace_state
theorem jJ (d : TDisk) (l : List TStep) (hL : DLen d) (hl : l.length ≤ 2000000) (ht : ∀ i, i < l.length → TLenS (nth l i)) (cut : Int) (torn : Bool) : Ex (fun m => qd prg m 36 [qR d, .sl 4 (l.map zc), iI cut, bB torn] []) (rDo (yl d l cut torn)) [] := by
  refine zz.1 ?_
  have hD := w6 d hL
  have hC := qhy l hl ht
  cases hok : q7 d <;> cases hst : z9 l
  all_goals (unfold yl; rw [hok, hst]; rw [hok] at hD; rw [hst] at hC)
  · (refine U36 (nl := 0) rfl ?_; unfold B36)
    repeat' (first|((with_reducible refine eG ?_);first|(with_reducible first|refine qX ?_|refine qY ?_|refine qZ ?_|refine q4 ?_|refine zm ?_)|refine qe rfl ?_|refine qb rfl ?_|((with_reducible refine zn ?_ ?_)<;>intro h))|((with_reducible refine eB ?_);first|((with_reducible refine zf ?_ ?_)<;>intro h<;>try (exfalso;omega))|refine qe rfl ?_|refine qb rfl ?_)|((with_reducible refine eL ?_);first|((with_reducible refine qI ?_ ?_);· rfl)|refine qy rfl rfl ?_|refine qG rfl rfl ?_|refine qz rfl rfl rfl ?_|refine qJ rfl rfl ?_|refine qH rfl rfl ?_|refine qK rfl ?_|refine qe rfl ?_|refine qb rfl ?_)|((with_reducible refine eS ?_);first|((with_reducible first|refine wl ?_ ?_ ?_|refine wm ?_ ?_ ?_);(·rfl);· omega)|((first|refine kz rfl rfl ?_ ?_|refine kA rfl rfl ?_ ?_);(·first|omega|(simp only [List.length_cons,List.length_nil,List.length_map,List.length_append];omega)))|refine qe rfl ?_|refine qb rfl ?_)|((with_reducible refine eC ?_);first|((refine qk (hD ..) rfl rfl ?_ rfl ?_);(focus first|exact .inl rfl|exact .inr rfl|(refine .inr ?_;simp [qo,qm,qh,qg,SO.hasSl,List.all_map,qi,SV.cells,Function.comp_def];done)))|((refine qk (hC ..) rfl rfl ?_ rfl ?_);(focus first|exact .inl rfl|exact .inr rfl|(refine .inr ?_;simp [qo,qm,qh,qg,SO.hasSl,List.all_map,qi,SV.cells,Function.comp_def];done))))|((with_reducible refine eK ?_);first|(with_reducible first|refine qT ?_|refine qU ?_)|((with_reducible refine qr ?_ ?_)<;>intro h))|((with_reducible refine eO ?_);first|refine qe rfl ?_|(refine qB rfl ?_ ?_<;>intro h<;>try (exfalso;simp_all;done))|refine qb rfl ?_|(refine qF rfl ?_ rfl ?_;(focus omega))|(refine qt rfl ?_ rfl ?_ ?_;(focus omega);(all_goals intro h)))|((with_reducible refine eD ?_);first|refine qe rfl ?_|refine qb rfl ?_|((with_reducible refine qC ?_ ?_)<;>intro h))|refine qq rfl ?_)
    all_goals exact ⟨rfl, rfl⟩
  · (refine U36 (nl := 0) rfl ?_; unfold B36)
    repeat' (first|((with_reducible refine eG ?_);first|(with_reducible first|refine qX ?_|refine qY ?_|refine qZ ?_|refine q4 ?_|refine zm ?_)|refine qe rfl ?_|refine qb rfl ?_|((with_reducible refine zn ?_ ?_)<;>intro h))|((with_reducible refine eB ?_);first|((with_reducible refine zf ?_ ?_)<;>intro h<;>try (exfalso;omega))|refine qe rfl ?_|refine qb rfl ?_)|((with_reducible refine eL ?_);first|((with_reducible refine qI ?_ ?_);· rfl)|refine qy rfl rfl ?_|refine qG rfl rfl ?_|refine qz rfl rfl rfl ?_|refine qJ rfl rfl ?_|refine qH rfl rfl ?_|refine qK rfl ?_|refine qe rfl ?_|refine qb rfl ?_)|((with_reducible refine eS ?_);first|((with_reducible first|refine wl ?_ ?_ ?_|refine wm ?_ ?_ ?_);(·rfl);· omega)|((first|refine kz rfl rfl ?_ ?_|refine kA rfl rfl ?_ ?_);(·first|omega|(simp only [List.length_cons,List.length_nil,List.length_map,List.length_append];omega)))|refine qe rfl ?_|refine qb rfl ?_)|((with_reducible refine eC ?_);first|((refine qk (hD ..) rfl rfl ?_ rfl ?_);(focus first|exact .inl rfl|exact .inr rfl|(refine .inr ?_;simp [qo,qm,qh,qg,SO.hasSl,List.all_map,qi,SV.cells,Function.comp_def];done)))|((refine qk (hC ..) rfl rfl ?_ rfl ?_);(focus first|exact .inl rfl|exact .inr rfl|(refine .inr ?_;simp [qo,qm,qh,qg,SO.hasSl,List.all_map,qi,SV.cells,Function.comp_def];done))))|((with_reducible refine eK ?_);first|(with_reducible first|refine qT ?_|refine qU ?_)|((with_reducible refine qr ?_ ?_)<;>intro h))|((with_reducible refine eO ?_);first|refine qe rfl ?_|(refine qB rfl ?_ ?_<;>intro h<;>try (exfalso;simp_all;done))|refine qb rfl ?_|(refine qF rfl ?_ rfl ?_;(focus omega))|(refine qt rfl ?_ rfl ?_ ?_;(focus omega);(all_goals intro h)))|((with_reducible refine eD ?_);first|refine qe rfl ?_|refine qb rfl ?_|((with_reducible refine qC ?_ ?_)<;>intro h))|refine qq rfl ?_)
    all_goals exact ⟨rfl, rfl⟩
  · (refine U36 (nl := 0) rfl ?_; unfold B36)
    repeat' (first|((with_reducible refine eG ?_);first|(with_reducible first|refine qX ?_|refine qY ?_|refine qZ ?_|refine q4 ?_|refine zm ?_)|refine qe rfl ?_|refine qb rfl ?_|((with_reducible refine zn ?_ ?_)<;>intro h))|((with_reducible refine eB ?_);first|((with_reducible refine zf ?_ ?_)<;>intro h<;>try (exfalso;omega))|refine qe rfl ?_|refine qb rfl ?_)|((with_reducible refine eL ?_);first|((with_reducible refine qI ?_ ?_);· rfl)|refine qy rfl rfl ?_|refine qG rfl rfl ?_|refine qz rfl rfl rfl ?_|refine qJ rfl rfl ?_|refine qH rfl rfl ?_|refine qK rfl ?_|refine qe rfl ?_|refine qb rfl ?_)|((with_reducible refine eS ?_);first|((with_reducible first|refine wl ?_ ?_ ?_|refine wm ?_ ?_ ?_);(·rfl);· omega)|((first|refine kz rfl rfl ?_ ?_|refine kA rfl rfl ?_ ?_);(·first|omega|(simp only [List.length_cons,List.length_nil,List.length_map,List.length_append];omega)))|refine qe rfl ?_|refine qb rfl ?_)|((with_reducible refine eC ?_);first|((refine qk (hD ..) rfl rfl ?_ rfl ?_);(focus first|exact .inl rfl|exact .inr rfl|(refine .inr ?_;simp [qo,qm,qh,qg,SO.hasSl,List.all_map,qi,SV.cells,Function.comp_def];done)))|((refine qk (hC ..) rfl rfl ?_ rfl ?_);(focus first|exact .inl rfl|exact .inr rfl|(refine .inr ?_;simp [qo,qm,qh,qg,SO.hasSl,List.all_map,qi,SV.cells,Function.comp_def];done))))|((with_reducible refine eK ?_);first|(with_reducible first|refine qT ?_|refine qU ?_)|((with_reducible refine qr ?_ ?_)<;>intro h))|((with_reducible refine eO ?_);first|refine qe rfl ?_|(refine qB rfl ?_ ?_<;>intro h<;>try (exfalso;simp_all;done))|refine qb rfl ?_|(refine qF rfl ?_ rfl ?_;(focus omega))|(refine qt rfl ?_ rfl ?_ ?_;(focus omega);(all_goals intro h)))|((with_reducible refine eD ?_);first|refine qe rfl ?_|refine qb rfl ?_|((with_reducible refine qC ?_ ?_)<;>intro h))|refine qq rfl ?_)
    all_goals (rw [if_neg (fun h9 => Bool.noConfusion h9.2.2)]; exact ⟨rfl, rfl⟩)
  · have hin : StepsIn l := ⟨hl, fun i hi => ⟨ht i hi, ZG (of_decide_eq_true hst i hi)⟩⟩
    (refine U36 (nl := 0) rfl ?_; unfold B36)
    repeat' (first|( (with_reducible refine qln ?_))|((with_reducible refine eG ?_);first|(with_reducible first|refine qX ?_|refine qY ?_|refine qZ ?_|refine q4 ?_|refine zm ?_)|refine qe rfl ?_|refine qb rfl ?_|((with_reducible refine zn ?_ ?_)<;>intro h))|((with_reducible refine eB ?_);first|((with_reducible refine zf ?_ ?_)<;>intro h<;>try (exfalso;omega))|refine qe rfl ?_|refine qb rfl ?_)|((with_reducible refine eL ?_);first|((with_reducible refine qI ?_ ?_);· rfl)|refine qy rfl rfl ?_|refine qG rfl rfl ?_|refine qz rfl rfl rfl ?_|refine qJ rfl rfl ?_|refine qH rfl rfl ?_|refine qK rfl ?_|refine qe rfl ?_|refine qb rfl ?_)|((with_reducible refine eS ?_);first|((with_reducible first|refine wl ?_ ?_ ?_|refine wm ?_ ?_ ?_);(·rfl);· omega)|((first|refine kz rfl rfl ?_ ?_|refine kA rfl rfl ?_ ?_);(·first|omega|(simp only [List.length_cons,List.length_nil,List.length_map,List.length_append];omega)))|refine qe rfl ?_|refine qb rfl ?_)|((with_reducible refine eC ?_);first|((refine qk (hD ..) rfl rfl ?_ rfl ?_);(focus first|exact .inl rfl|exact .inr rfl|(refine .inr ?_;simp [qo,qm,qh,qg,SO.hasSl,List.all_map,qi,SV.cells,Function.comp_def];done)))|((refine qk (hC ..) rfl rfl ?_ rfl ?_);(focus first|exact .inl rfl|exact .inr rfl|(refine .inr ?_;simp [qo,qm,qh,qg,SO.hasSl,List.all_map,qi,SV.cells,Function.comp_def];done)))|((refine qk (xt d hL) rfl rfl ?_ rfl ?_);(focus first|exact .inl rfl|exact .inr rfl|(refine .inr ?_;simp [qo,qm,qh,qg,SO.hasSl,List.all_map,qi,SV.cells,Function.comp_def];done))))|((with_reducible refine eK ?_);first|(with_reducible first|refine qT ?_|refine qU ?_)|((with_reducible refine qr ?_ ?_)<;>intro h))|((with_reducible refine eO ?_);first|refine qe rfl ?_|(refine qB rfl ?_ ?_<;>intro h<;>try (exfalso;simp_all;done))|refine qb rfl ?_|(refine qF rfl ?_ rfl ?_;(focus omega))|(refine qt rfl ?_ rfl ?_ ?_;(focus omega);(all_goals intro h)))|((with_reducible refine eD ?_);first|refine qe rfl ?_|refine qb rfl ?_|((with_reducible refine qC ?_ ?_)<;>intro h))|((with_reducible refine eH ?_);first|refine zA rfl ?_)|(with_reducible first|refine qev ?_|refine qim ?_)|( (rw [if_pos ⟨rfl,by omega,rfl⟩];exact Ji d l hin cut torn (zD hok) (by omega) 0 (by omega) _ 0 _ rfl rfl))|refine qq rfl ?_)
    all_goals first
      | (rw [if_neg (fun h9 => by omega)]; exact ⟨rfl, rfl⟩)
      | trace_state
theorem Jj (d : TDisk) (l : List TStep) (hL : DLen d) (hl : l.length ≤ 2000000) (ht : ∀ i, i < l.length → TLenS (nth l i)) (cut : Int) (torn : Bool) : ∀ i : Nat, i ≤ l.length → (∀ j, j < i → zO (nth l j) = true) → ∀ (k : Int) (c : Nat), k = i →
    Ev (fun n => qa1 (qd prg n) (n + 1) 0 (n + 1 - c) [.sl 4 (l.map zc), iI cut, bB torn, .ptr 0 0, .ptr 1 0, iI k]
      [.box [.sl 4 (d.db.map zh), .sl 1 (d.files.map iI), bB d.has, .sl 4 (d.jour.map zh)], .box [.osl 2, .osl 3, bB false, .osl 4], .arr false 4 [], .arr false 1 [], .arr false 4 []]) (Is (rDo (yl d l cut torn)) []) := by
  refine zC ?_
  intro i hi ih hp k c hk
  subst hk
  by_cases hlt : i < l.length
  · have hT := Zy (nth l i) (ht i hlt)
    cases hst : zO (nth l i)
    · rw [hst] at hT
      (refine J8 _ ?_; unfold Ki)
      repeat' (first|((with_reducible refine eG ?_);first|(with_reducible first|refine qX ?_|refine qY ?_|refine qZ ?_|refine q4 ?_|refine zm ?_)|refine qe rfl ?_|refine qb rfl ?_|((with_reducible refine zn ?_ ?_)<;>intro h))|((with_reducible refine eB ?_);first|((with_reducible refine zf ?_ ?_)<;>intro h<;>try (exfalso;omega))|((with_reducible refine zi ?_ ?_);· omega)|refine qe rfl ?_|refine qb rfl ?_)|((with_reducible refine eL ?_);first|((with_reducible refine qI ?_ ?_);· rfl)|refine qy rfl rfl ?_|refine qG rfl rfl ?_|refine qz rfl rfl rfl ?_|refine qJ rfl rfl ?_|refine qH rfl rfl ?_|refine qK rfl ?_|refine qe rfl ?_|refine qb rfl ?_)|((with_reducible refine eI ?_);first|((with_reducible refine q5 ?_ ?_ ?_);(·rfl);· omega)|(refine qN rfl rfl ?_ ?_;(·first|omega|(simp only [List.length_cons,List.length_nil,List.length_map,List.length_append];omega)))|(refine qO rfl rfl ?_ ?_;(focus omega))|((with_reducible refine q9 ?_ ?_ ?_);(·rfl);· omega)|(refine qS rfl rfl ?_ ?_;(·first|omega|(simp only [List.length_cons,List.length_nil,List.length_map,List.length_append];omega)))|(refine qW rfl rfl ?_ ?_;(focus omega))|refine qe rfl ?_|refine qb rfl ?_)|((with_reducible refine eC ?_);first|((refine qk (hT ..) rfl rfl ?_ rfl ?_);(focus first|exact .inl rfl|exact .inr rfl|(refine .inr ?_;simp [qo,qm,qh,qg,SO.hasSl,List.all_map,qi,SV.cells,Function.comp_def];done))))|((with_reducible refine eK ?_);first|(with_reducible first|refine qT ?_|refine qU ?_)|((with_reducible refine qr ?_ ?_)<;>intro h))|((with_reducible refine eO ?_);first|refine qe rfl ?_|(refine qB rfl ?_ ?_<;>intro h<;>try (exfalso;simp_all;done))|refine qb rfl ?_|(refine qF rfl ?_ rfl ?_;(focus omega))|(refine qt rfl ?_ rfl ?_ ?_;(focus omega);(all_goals intro h)))|((with_reducible refine eD ?_);first|refine qe rfl ?_|refine qb rfl ?_|((with_reducible refine qC ?_ ?_)<;>intro h))|refine qq rfl ?_)
      all_goals (unfold yl; rw [if_neg (fun h9 => by have := of_decide_eq_true h9.2.2 i hlt; rw [hst] at this; cases this)]; exact ⟨rfl, rfl⟩)
    · rw [hst] at hT
      (refine J8 _ ?_; unfold Ki)
      repeat' (first|((with_reducible refine eG ?_);first|(with_reducible first|refine qX ?_|refine qY ?_|refine qZ ?_|refine q4 ?_|refine zm ?_)|refine qe rfl ?_|refine qb rfl ?_|((with_reducible refine zn ?_ ?_)<;>intro h))|((with_reducible refine eB ?_);first|((with_reducible refine zf ?_ ?_)<;>intro h<;>try (exfalso;omega))|((with_reducible refine zi ?_ ?_);· omega)|refine qe rfl ?_|refine qb rfl ?_)|((with_reducible refine eL ?_);first|((with_reducible refine qI ?_ ?_);· rfl)|refine qy rfl rfl ?_|refine qG rfl rfl ?_|refine qz rfl rfl rfl ?_|refine qJ rfl rfl ?_|refine qH rfl rfl ?_|refine qK rfl ?_|refine qe rfl ?_|refine qb rfl ?_)|((with_reducible refine eI ?_);first|((with_reducible refine q5 ?_ ?_ ?_);(·rfl);· omega)|(refine qN rfl rfl ?_ ?_;(·first|omega|(simp only [List.length_cons,List.length_nil,List.length_map,List.length_append];omega)))|(refine qO rfl rfl ?_ ?_;(focus omega))|((with_reducible refine q9 ?_ ?_ ?_);(·rfl);· omega)|(refine qS rfl rfl ?_ ?_;(·first|omega|(simp only [List.length_cons,List.length_nil,List.length_map,List.length_append];omega)))|(refine qW rfl rfl ?_ ?_;(focus omega))|refine qe rfl ?_|refine qb rfl ?_)|((with_reducible refine eC ?_);first|((refine qk (hT ..) rfl rfl ?_ rfl ?_);(focus first|exact .inl rfl|exact .inr rfl|(refine .inr ?_;simp [qo,qm,qh,qg,SO.hasSl,List.all_map,qi,SV.cells,Function.comp_def];done))))|((with_reducible refine eK ?_);first|(with_reducible first|refine qT ?_|refine qU ?_)|((with_reducible refine qr ?_ ?_)<;>intro h))|((with_reducible refine eO ?_);first|refine qe rfl ?_|(refine qB rfl ?_ ?_<;>intro h<;>try (exfalso;simp_all;done))|refine qb rfl ?_|(refine qF rfl ?_ rfl ?_;(focus omega))|(refine qt rfl ?_ rfl ?_ ?_;(focus omega);(all_goals intro h)))|((with_reducible refine eD ?_);first|refine qe rfl ?_|refine qb rfl ?_|((with_reducible refine qC ?_ ?_)<;>intro h))|((with_reducible refine eH ?_);first|refine zA rfl ?_)|(with_reducible first|refine qeu ?_|refine qil ?_)|((with_reducible refine ih hlt (zR hp ?_) _ _ ?_)<;>(first|omega|assumption|((exact hst))|(simp only [*,List.map_append,List.length_append,List.length_cons,List.length_nil,List.map_cons,List.map_nil];done)|(simp_all;done)|(simp_all;omega)))|refine qq rfl ?_)
  · have hall : z9 l = true := decide_eq_true fun j hj => hp j (by omega)
    have hin : StepsIn l := ⟨hl, fun i hi => ⟨ht i hi, ZG (of_decide_eq_true hall i hi)⟩⟩
    have hD := kN d hL
    cases hok : q7 d
    · rw [hok] at hD
      (refine J8 _ ?_; unfold Ki)
      repeat' (first|((with_reducible refine eG ?_);first|(with_reducible first|refine qX ?_|refine qY ?_|refine qZ ?_|refine q4 ?_|refine zm ?_)|refine qe rfl ?_|refine qb rfl ?_|((with_reducible refine zn ?_ ?_)<;>intro h))|((with_reducible refine eB ?_);first|((with_reducible refine zf ?_ ?_)<;>intro h<;>try (exfalso;omega))|((with_reducible refine zi ?_ ?_);· omega)|refine qe rfl ?_|refine qb rfl ?_)|((with_reducible refine eL ?_);first|((with_reducible refine qI ?_ ?_);· rfl)|refine qy rfl rfl ?_|refine qG rfl rfl ?_|refine qz rfl rfl rfl ?_|refine qJ rfl rfl ?_|refine qH rfl rfl ?_|refine qK rfl ?_|refine qe rfl ?_|refine qb rfl ?_)|((with_reducible refine eI ?_);first|((with_reducible refine q5 ?_ ?_ ?_);(·rfl);· omega)|(refine qN rfl rfl ?_ ?_;(·first|omega|(simp only [List.length_cons,List.length_nil,List.length_map,List.length_append];omega)))|(refine qO rfl rfl ?_ ?_;(focus omega))|((with_reducible refine q9 ?_ ?_ ?_);(·rfl);· omega)|(refine qS rfl rfl ?_ ?_;(·first|omega|(simp only [List.length_cons,List.length_nil,List.length_map,List.length_append];omega)))|(refine qW rfl rfl ?_ ?_;(focus omega))|refine qe rfl ?_|refine qb rfl ?_)|((with_reducible refine eC ?_);first|((refine qk (hD ..) rfl rfl ?_ rfl ?_);(focus first|exact .inl rfl|exact .inr rfl|(refine .inr ?_;simp [qo,qm,qh,qg,SO.hasSl,List.all_map,qi,SV.cells,Function.comp_def];done))))|((with_reducible refine eK ?_);first|(with_reducible first|refine qT ?_|refine qU ?_)|((with_reducible refine qr ?_ ?_)<;>intro h))|((with_reducible refine eO ?_);first|refine qe rfl ?_|(refine qB rfl ?_ ?_<;>intro h<;>try (exfalso;simp_all;done))|refine qb rfl ?_|(refine qF rfl ?_ rfl ?_;(focus omega))|(refine qt rfl ?_ rfl ?_ ?_;(focus omega);(all_goals intro h)))|((with_reducible refine eD ?_);first|refine qe rfl ?_|refine qb rfl ?_|((with_reducible refine qC ?_ ?_)<;>intro h))|refine qq rfl ?_)
      all_goals (unfold yl; rw [hok, if_neg (fun h9 => Bool.noConfusion h9.1)]; exact ⟨rfl, rfl⟩)
    · rw [hok] at hD
      (refine J8 _ ?_; unfold Ki)
      repeat' (first|((with_reducible refine eG ?_);first|(with_reducible first|refine qX ?_|refine qY ?_|refine qZ ?_|refine q4 ?_|refine zm ?_)|refine qe rfl ?_|refine qb rfl ?_|((with_reducible refine zn ?_ ?_)<;>intro h))|((with_reducible refine eB ?_);first|((with_reducible refine zf ?_ ?_)<;>intro h<;>try (exfalso;omega))|((with_reducible refine zi ?_ ?_);· omega)|refine qe rfl ?_|refine qb rfl ?_)|((with_reducible refine eL ?_);first|((with_reducible refine qI ?_ ?_);· rfl)|refine qy rfl rfl ?_|refine qG rfl rfl ?_|refine qz rfl rfl rfl ?_|refine qJ rfl rfl ?_|refine qH rfl rfl ?_|refine qK rfl ?_|refine qe rfl ?_|refine qb rfl ?_)|((with_reducible refine eI ?_);first|((with_reducible refine q5 ?_ ?_ ?_);(·rfl);· omega)|(refine qN rfl rfl ?_ ?_;(·first|omega|(simp only [List.length_cons,List.length_nil,List.length_map,List.length_append];omega)))|(refine qO rfl rfl ?_ ?_;(focus omega))|((with_reducible refine q9 ?_ ?_ ?_);(·rfl);· omega)|(refine qS rfl rfl ?_ ?_;(·first|omega|(simp only [List.length_cons,List.length_nil,List.length_map,List.length_append];omega)))|(refine qW rfl rfl ?_ ?_;(focus omega))|refine qe rfl ?_|refine qb rfl ?_)|((with_reducible refine eC ?_);first|((refine qk (hD ..) rfl rfl ?_ rfl ?_);(focus first|exact .inl rfl|exact .inr rfl|(refine .inr ?_;simp [qo,qm,qh,qg,SO.hasSl,List.all_map,qi,SV.cells,Function.comp_def];done)))|((refine qk (ZH d hL) rfl rfl ?_ rfl ?_);(focus first|exact .inl rfl|exact .inr rfl|(refine .inr ?_;simp [qo,qm,qh,qg,SO.hasSl,List.all_map,qi,SV.cells,Function.comp_def];done)))|((refine qk (ZF d l hin cut torn (zD hok)) rfl rfl ?_ rfl ?_);(focus first|exact .inl rfl|exact .inr rfl|(refine .inr ?_;simp [qo,qm,qh,qg,SO.hasSl,List.all_map,qi,SV.cells,Function.comp_def];done))))|((with_reducible refine eK ?_);first|(with_reducible first|refine qT ?_|refine qU ?_)|((with_reducible refine qr ?_ ?_)<;>intro h))|((with_reducible refine eO ?_);first|refine qe rfl ?_|(refine qB rfl ?_ ?_<;>intro h<;>try (exfalso;simp_all;done))|refine qb rfl ?_|(refine qF rfl ?_ rfl ?_;(focus omega))|(refine qt rfl ?_ rfl ?_ ?_;(focus omega);(all_goals intro h)))|((with_reducible refine eD ?_);first|refine qe rfl ?_|refine qb rfl ?_|((with_reducible refine qC ?_ ?_)<;>intro h))|refine qq rfl ?_)
      all_goals first
        | (unfold yl; rw [hok, hall, if_pos ⟨rfl, by omega, rfl⟩]; exact ⟨rfl, rfl⟩)
        | (unfold yl; rw [if_neg (fun h9 => by omega)]; exact ⟨rfl, rfl⟩)
        | trace_state
theorem qfn (d : TDisk) (l : List TStep) (hL : DLen d) (hl : l.length ≤ 2000000) (ht : ∀ i, i < l.length → TLenS (nth l i)) (cut : Int) (torn : Bool) : Ex (fun m => qd prg m 35 [qR d, .sl 4 (l.map zc), iI cut, bB torn] []) (rDo (yl d l cut torn)) [] := by
  refine zz.1 ?_
  (refine U35 (nl := 0) rfl ?_; unfold B35)
  repeat' (first|((with_reducible refine eD ?_);first|refine qe rfl ?_|refine qb rfl ?_)|((with_reducible refine eH ?_);first|refine zA rfl ?_)|(with_reducible first|refine qeu ?_|refine qil ?_)|( exact Jj d l hL hl ht cut torn 0 (by omega) (fun j hj => by omega) 0 _ rfl)|refine qq rfl ?_)
theorem qcc (a b : List TPkg) (hl : a.length = b.length) (h47 : a.length ≤ 2000000) (hp0 : PL a) : ∀ i, i ≤ a.length → (∀ j, j < i → nth a j = nth b j) → ∀ (k : Int) (c : Nat), k = i →
    Ev (fun n => qaW (qd prg n) (n + 1) 0 (n + 1 - c) (.sl 4 (a.map zh)) (.sl 4 (b.map zh)) (iI k) []) (Is (bB (decide (a = b))) []) := by
  refine zC ?_
  intro i hi ih hp k c hk
  subst hk
  (refine UL26_4 ?_; unfold qdE)
  repeat' (first|((with_reducible refine eB ?_);first|((with_reducible refine zf ?_ ?_)<;>intro h<;>try (exfalso;omega))|((with_reducible refine zi ?_ ?_);· omega)|refine qe rfl ?_|refine qb rfl ?_)|((with_reducible refine eL ?_);first|((with_reducible refine qI ?_ ?_);· rfl)|refine qy rfl rfl ?_|refine qG rfl rfl ?_|refine qz rfl rfl rfl ?_|refine qJ rfl rfl ?_|refine qH rfl rfl ?_|refine qK rfl ?_|refine qe rfl ?_|refine qb rfl ?_)|((with_reducible refine eI ?_);first|((with_reducible refine q5 ?_ ?_ ?_);(·rfl);· omega)|(refine qN rfl rfl ?_ ?_;(·first|omega|(simp only [List.length_cons,List.length_nil,List.length_map,List.length_append];omega)))|(refine qO rfl rfl ?_ ?_;(focus omega))|((with_reducible refine q9 ?_ ?_ ?_);(·rfl);· omega)|(refine qS rfl rfl ?_ ?_;(·first|omega|(simp only [List.length_cons,List.length_nil,List.length_map,List.length_append];omega)))|(refine qW rfl rfl ?_ ?_;(focus omega))|refine qe rfl ?_|refine qb rfl ?_)|((with_reducible refine eC ?_);first|((refine zw (qle _ _ (hp0 i).1 (hp0 i).2) rfl rfl ?_ rfl rfl ?_ ?_);(focus first|exact .inl rfl|exact .inr rfl|(refine .inr ?_;simp [qo,qm,qh,qg,SO.hasSl,List.all_map,qi,SV.cells,Function.comp_def];done));(all_goals (intro h));(all_goals (try (exfalso;first|omega|exact h rfl|exact h ⟨rfl,rfl,rfl⟩)))))|((with_reducible refine eK ?_);first|(with_reducible first|refine qT ?_|refine qU ?_)|((with_reducible refine qr ?_ ?_)<;>intro h))|((with_reducible refine eO ?_);first|refine qe rfl ?_|(refine qB rfl ?_ ?_<;>intro h<;>try (exfalso;simp_all;done))|refine qb rfl ?_|(refine qF rfl ?_ rfl ?_;(focus omega))|(refine qt rfl ?_ rfl ?_ ?_;(focus omega);(all_goals intro h)))|((with_reducible refine eD ?_);first|refine qe rfl ?_|refine qb rfl ?_)|((with_reducible refine ih ?_ (zR hp ?_) _ _ ?_)<;>(first|omega|assumption|((exact h))|(simp only [*,List.map_append,List.length_append,List.length_cons,List.length_nil,List.map_cons,List.map_nil];done)|(simp_all;done)|(simp_all;omega)))|refine qq rfl ?_)
  · exact ⟨congrArg bB (Eq.symm (decide_eq_false fun e => h (by rw [e]))), rfl⟩
  · exact ⟨congrArg bB (Eq.symm (decide_eq_true (yH hl fun j hj => hp j (by omega)))), rfl⟩
theorem Wy (a b : List TPkg) (h47 : a.length ≤ 2000000) (hp0 : PL a) : Ex (fun m => qd prg m 26 [.sl 4 (a.map zh), .sl 4 (b.map zh)] []) (bB (decide (a = b))) [] := by
  refine zz.1 ?_
  (refine U26 (nl := 0) rfl ?_; unfold B26)
  repeat' (first|((with_reducible refine eB ?_);first|((with_reducible refine kb ?_ ?_)<;>intro h<;>try (exfalso;omega))|refine qe rfl ?_|refine qb rfl ?_)|((with_reducible refine eL ?_);first|((with_reducible refine qI ?_ ?_);· rfl)|refine qy rfl rfl ?_|refine qG rfl rfl ?_|refine qz rfl rfl rfl ?_|refine qJ rfl rfl ?_|refine qH rfl rfl ?_|refine qK rfl ?_|refine qe rfl ?_|refine qb rfl ?_)|((with_reducible refine eK ?_);first|(with_reducible first|refine qT ?_|refine qU ?_)|((with_reducible refine qr ?_ ?_)<;>intro h))|((with_reducible refine eD ?_);first|refine qe rfl ?_|refine qb rfl ?_)|( exact qcc a b (by omega) h47 hp0 0 (by omega) (fun j hj => by omega) 0 0 rfl)|refine qq rfl ?_)
  exact ⟨congrArg bB (Eq.symm (decide_eq_false fun e => h (by rw [e]))), rfl⟩
theorem qhA (a b : TDisk) (hL : DLen a) : Ex (fun m => qd prg m 25 [qR a, qR b] []) (bB (decide (a = b))) [] := by
  refine zz.1 ?_
  obtain ⟨h1, h2, h3, h4, h5⟩ := hL
  obtain ⟨db, fs, has, jo⟩ := a
  obtain ⟨db', fs', has', jo'⟩ := b
  (refine U25 (nl := 0) rfl ?_; unfold B25)
  cases has <;> cases has'
  all_goals repeat' (first|((with_reducible refine eG ?_);first|(with_reducible first|refine qX ?_|refine qY ?_|refine qZ ?_|refine q4 ?_|refine zm ?_)|refine qe rfl ?_|refine qb rfl ?_|((with_reducible refine zn ?_ ?_)<;>intro h))|((with_reducible refine eB ?_);first|((with_reducible refine zr ?_ ?_)<;>intro h<;>try (exfalso;omega))|refine qe rfl ?_|refine qb rfl ?_)|((with_reducible refine eC ?_);first|((refine zw (Wy db db' h1 h2) rfl rfl ?_ rfl rfl ?_ ?_);(focus first|exact .inl rfl|exact .inr rfl|(refine .inr ?_;simp [qo,qm,qh,qg,SO.hasSl,List.all_map,qi,SV.cells,Function.comp_def];done));(all_goals (intro h));(all_goals (try (exfalso;first|omega|exact h rfl|exact h ⟨rfl,rfl,rfl⟩))))|((refine zw (Wm fs fs' (Nat.le_trans h3 (by decide))) rfl rfl ?_ rfl rfl ?_ ?_);(focus first|exact .inl rfl|exact .inr rfl|(refine .inr ?_;simp [qo,qm,qh,qg,SO.hasSl,List.all_map,qi,SV.cells,Function.comp_def];done));(all_goals (intro h));(all_goals (try (exfalso;first|omega|exact h rfl|exact h ⟨rfl,rfl,rfl⟩))))|((refine zw (Wy jo jo' h4 h5) rfl rfl ?_ rfl rfl ?_ ?_);(focus first|exact .inl rfl|exact .inr rfl|(refine .inr ?_;simp [qo,qm,qh,qg,SO.hasSl,List.all_map,qi,SV.cells,Function.comp_def];done));(all_goals (intro h));(all_goals (try (exfalso;first|omega|exact h rfl|exact h ⟨rfl,rfl,rfl⟩)))))|((with_reducible refine eO ?_);first|refine qe rfl ?_|(refine qB rfl ?_ ?_<;>intro h<;>try (exfalso;simp_all;done))|refine qb rfl ?_|(refine qF rfl ?_ rfl ?_;(focus omega))|(refine qt rfl ?_ rfl ?_ ?_;(focus omega);(all_goals intro h)))|((with_reducible refine eD ?_);first|refine qe rfl ?_|refine qb rfl ?_|((with_reducible refine qC ?_ ?_)<;>intro h))|refine qq rfl ?_)
  all_goals (refine ⟨congrArg (fun b => SV.v (Value.bool b)) ?_, rfl⟩; first | (simp_all []; done) | (simp_all []; omega) | (simp [] at *; omega) | (simp []; omega) | grind [] | trace_state)
theorem Wz {d : TDisk} : (zp d).length ≤ 8 := by
  unfold zp; split
  · exact KH d
  · simp
theorem jK : PL [] := zK ko
theorem qfo {d : TDisk} {s : List TPkg} (hs : s.length ≤ 2000000) (hp0 : PL s) : ∀ t, t ∈ zY d s → TLenS t := fun t ht => by
  unfold zY at ht
  rcases List.mem_append.1 ht with h | h
  · unfold zG at h
    obtain ⟨i, -, rfl⟩ := List.mem_map.1 h
    exact ⟨Nat.zero_le _, jK⟩
  · rcases List.mem_cons.1 h with rfl | h
    · exact ⟨hs, hp0⟩
    · obtain rfl := List.mem_singleton.1 h
      exact ⟨Nat.zero_le _, jK⟩
theorem qfp {d : TDisk} (hL : DLen d) : ∀ t, t ∈ zp d → TLenS t := fun t ht => by
  unfold zp za at ht
  split at ht
  · split at ht
    · exact qfo hL.jl hL.jp t ht
    · cases ht
  · cases ht
theorem ZI (d : TDisk) (hL : DLen d) : Ex (fun m => qd prg m 40 [qR d] []) (rDo (ym d)) [] := by
  refine zz.1 ?_
  have hl := Wz (d := d)
  have hM := kO d hL
  have hT := jJ d (zp d) hL (by omega) (fun i hi => qfp hL _ (zX hi)) (zp d).length false
  unfold ym
  (refine U40 (nl := 0) rfl ?_; unfold B40)
  repeat' (first|((with_reducible refine eL ?_);first|((with_reducible refine qI ?_ ?_);· rfl)|refine qy rfl rfl ?_|refine qG rfl rfl ?_|refine qz rfl rfl rfl ?_|refine qJ rfl rfl ?_|refine qH rfl rfl ?_|refine qK rfl ?_|refine qe rfl ?_|refine qb rfl ?_)|((with_reducible refine eC ?_);first|((refine qk (hM ..) rfl rfl ?_ rfl ?_);(focus first|exact .inl rfl|exact .inr rfl|(refine .inr ?_;simp [qo,qm,qh,qg,SO.hasSl,List.all_map,qi,SV.cells,Function.comp_def];done)))|((refine qk (hT ..) rfl rfl ?_ rfl ?_);(focus first|exact .inl rfl|exact .inr rfl|(refine .inr ?_;simp [qo,qm,qh,qg,SO.hasSl,List.all_map,qi,SV.cells,Function.comp_def];done))))|((with_reducible refine eO ?_);first|refine qe rfl ?_|(refine qB rfl ?_ ?_<;>intro h<;>try (exfalso;simp_all;done))|refine qb rfl ?_|(refine qF rfl ?_ rfl ?_;(focus omega))|(refine qt rfl ?_ rfl ?_ ?_;(focus omega);(all_goals intro h)))|((with_reducible refine eD ?_);first|refine qe rfl ?_|refine qb rfl ?_)|refine qq rfl ?_)
  all_goals exact ⟨rfl, rfl⟩
end Go.Proofs.Ytfjbclgbpdlkgaa

/- Drawn disks. -/
namespace Go.Proofs.Ytfjbclgbpdlkgaa
open Go
set_option linter.unusedVariables false
set_option linter.unusedSimpArgs false
set_option maxHeartbeats 4000000
theorem qfq {st hv : List TPkg} {name : Int} {r : List TPkg} {ok : Bool} (h : qfS st hv name = (r, ok)) : zo r = true := by
  unfold qfS at h
  split at h
  · rename_i h1; cases h; exact h1.2
  · cases h; rfl
def qiG (b : List Int) (p : Int) : SV → List SO → Prop := fun x os => ∃ (s : List TPkg) (q : Int), os = [rd b q] ∧ x = .sl 4 (s.map zh) ∧ s.length ≤ 4 ∧ kh s ∧ p ≤ q ∧ q ≤ p + 10 ∧ wN s ∧ zo s = true
theorem YL {b : List Int} (hb : RdOK b) {p0 : Int} (hp0 : 0 ≤ p0 ∧ p0 < 500000000) (st : List TPkg) (hs : st.length ≤ 20) (hsm : kh st) (ht : wN st) : ∀ i : Nat, i ≤ 2 → ∀ (p k : Int) (hv : List TPkg) (o : SO) (c : Nat), k ≤ 2 - i → Arr4 hv o → hv.length ≤ 4 → kh hv → wN hv → zo hv = true → p0 ≤ p → p ≤ p0 + 1 + i →
    Ev (fun n => qbi (qd prg n) (n + 1) 1 (n + 1 - c) [.ptr 0 0, .sl 4 (st.map zh), .osl 1, iI k] [rd b p, o]) (qiG b p0) := by
  refine zC ?_
  intro i hi ih p k hv o c hk ho hl hsh hth hpv h1 h2
  have hfor := fun (z : Int) hz => qhw st hv (by omega) (zK hsm) (by omega) (zK hsh) z hz ht hth
  rcases ho with rfl | rfl
  all_goals (refine UG71_3 _ ?_; unfold qd2)
  all_goals repeat' (first|((with_reducible refine eB ?_);first|((with_reducible refine ka ?_ ?_)<;>intro h<;>try (exfalso;omega))|((with_reducible first|refine zi ?_ ?_|refine kG ?_ ?_);· omega)|refine qe rfl ?_|refine qb rfl ?_)|((with_reducible refine eC ?_);first|((refine z5 (kV hb (by omega) _ (by omega)) rfl rfl ?_ (fun _ => rfl) ?_);(·first|exact .inl rfl|exact .inr (fun _ => rfl));(first|(have q0 := z3;clear q0;intro z4 hz4)|(have q0 := z2;clear q0;intro z3 hz3)|(have q0 := z;clear q0;intro z2 hz2)|(intro z hz)))|((refine zk (hfor _ (by omega)) rfl rfl ?_);((rintro _ _ ⟨r,ok,hr,rfl,rfl⟩)<;>(((have hrl := (Wu hr).1);(have hrs := qb4 hr hsm hsh);(have hrt := qfd hr ht hth);(have hrp := qfq hr);(rcases ok with _|_)))<;>(first|(refine zF ?_ rfl ?_;(focus first|exact .inl rfl|exact .inr rfl|(refine .inr ?_;simp [qo,qm,qh,qg,SO.hasSl,List.all_map,qi,SV.cells,Function.comp_def];done)))|(refine zl ?_ rfl ?_;(focus first|rfl|(simp [qo,qm,qh,qg,SO.hasSl,List.all_map,qi,SV.cells,Function.comp_def];done)))))))|((with_reducible refine eK ?_);first|(with_reducible first|refine qT ?_|refine qU ?_)|((with_reducible refine qr ?_ ?_)<;>intro h))|((with_reducible refine eD ?_);first|refine qe rfl ?_|refine qb rfl ?_)|((with_reducible refine eH ?_);first|refine zA rfl ?_)|((with_reducible refine UJ71_4 ?_);(unfold qd3))|(with_reducible first|refine qeA ?_|refine qiu ?_)|((with_reducible refine ih ?_ _ _ r _ _ ?_ ?_ ?_ hrs hrt hrp ?_ ?_)<;>(first|omega|assumption|((exact .inl rfl))|(simp only [*,List.map_append,List.length_append,List.length_cons,List.length_nil,List.map_cons,List.map_nil];done)|(simp_all;done)|(simp_all;omega)))|((with_reducible refine ih ?_ _ _ hv _ _ ?_ ?_ ?_ hsh hth hpv ?_ ?_)<;>(first|omega|assumption|((first|exact .inl rfl|exact .inr rfl))|(simp only [*,List.map_append,List.length_append,List.length_cons,List.length_nil,List.map_cons,List.map_nil];done)|(simp_all;done)|(simp_all;omega)))|refine qq rfl ?_)
  all_goals first
    | exact ⟨hv, _, rfl, rfl, hl, hsh, by omega, by omega, hth, hpv⟩
    | trace_state
theorem KK {b : List Int} (hb : RdOK b) {p : Int} (hp : 0 ≤ p ∧ p < 500000000) (st : List TPkg) (hs : st.length ≤ 20) (hsm : kh st) (ht : wN st) : Ev (fun n => qd prg n 71 [.ptr 0 0, .sl 4 (st.map zh)] [rd b p]) (qiG b p) := by
  (refine U71 (nl := 1) rfl ?_; unfold B71)
  repeat' (first|((with_reducible refine eC ?_);first|((refine z5 (kV hb (by omega) _ (by omega)) rfl rfl ?_ (fun _ => rfl) ?_);(·first|exact .inl rfl|exact .inr (fun _ => rfl));(first|(have q0 := z3;clear q0;intro z4 hz4)|(have q0 := z2;clear q0;intro z3 hz3)|(have q0 := z;clear q0;intro z2 hz2)|(intro z hz))))|((with_reducible refine eD ?_);first|refine qe rfl ?_|refine qb rfl ?_)|((with_reducible refine eH ?_);first|refine zA rfl ?_)|(with_reducible first|refine qeA ?_|refine qiu ?_)|((with_reducible refine YL hb hp st hs hsm ht 0 ?_ _ _ [] _ _ ?_ ?_ ?_ ko Yo rfl ?_ ?_)<;>(first|omega|assumption|((first|exact .inl rfl|exact Nat.zero_le _))|(simp only [*,List.map_append,List.length_append,List.length_cons,List.length_nil,List.map_cons,List.map_nil];done)|(simp_all;done)|(simp_all;omega)))|refine qq rfl ?_)
theorem ZJ {d : TDisk} {s : List TPkg} (hs : s.length ≤ 2000000) (hp0 : PL s) : StepsIn (zE d s) := by
  refine ⟨Nat.le_trans (wW d s) (by decide), fun i hi => ?_⟩
  have h := zX hi
  generalize nth (zE d s) i = t at h
  unfold zE zY zG at h
  rcases List.mem_cons.1 h with rfl | h
  · exact ⟨⟨hs, hp0⟩, .inl (by dsimp only; decide)⟩
  · rcases List.mem_append.1 h with h | h
    · obtain ⟨j, hj, rfl⟩ := List.mem_map.1 h
      have := List.mem_range.1 (List.mem_filter.1 hj).1
      exact ⟨⟨Nat.zero_le _, jK⟩, .inr (by dsimp only; omega)⟩
    · rcases List.mem_cons.1 h with rfl | h
      · exact ⟨⟨hs, hp0⟩, .inl (by dsimp only; decide)⟩
      · obtain rfl := List.mem_singleton.1 h
        exact ⟨⟨Nat.zero_le _, jK⟩, .inl (by dsimp only; decide)⟩
structure SDisk (d : TDisk) : Prop where
  db : d.db.length ≤ 9
  ds : kh d.db
  jl : d.jour.length ≤ 9
  js : kh d.jour
theorem SDisk.len {d : TDisk} (h : SDisk d) (hf : d.files.length ≤ 2000000) : DLen d := ⟨Nat.le_trans h.db (by decide), zK h.ds, hf, Nat.le_trans h.jl (by decide), zK h.js⟩
def wd (t : TStep) : Prop := t.pkgs.length ≤ 9 ∧ kh t.pkgs
theorem qhB {d : TDisk} {t : TStep} (h : SDisk d) (ht : wd t) : SDisk (doP d t) := by
  unfold doP
  repeat' split
  · exact ⟨h.db, h.ds, ht.1, ht.2⟩
  · exact ⟨h.db, h.ds, h.jl, h.js⟩
  · exact ⟨ht.1, ht.2, h.jl, h.js⟩
  · exact ⟨h.db, h.ds, Nat.zero_le _, ko⟩
  · exact h
theorem Jk {d : TDisk} {t : TStep} (h : SDisk d) : SDisk (kB d t) := by
  unfold kB
  repeat' split
  · exact ⟨h.db, h.ds, h.jl, h.js⟩
  · exact ⟨Nat.zero_le _, ko, h.jl, h.js⟩
  · exact h
theorem qfr {l : List TStep} : ∀ {d : TDisk}, SDisk d → (∀ t, t ∈ l → wd t) → SDisk (l.foldl doP d) := by
  induction l with
  | nil => intro d h _; exact h
  | cons t l ih => intro d h hl; exact ih (qhB h (hl t (List.mem_cons_self ..))) fun x hx => hl x (List.mem_cons_of_mem _ hx)
theorem QF {d : TDisk} {l : List TStep} {cut : Int} {torn : Bool} (h : SDisk d) (hl : ∀ t, t ∈ l → wd t) : SDisk (toP d l cut torn) := by
  have h1 : ∀ i, SDisk (Qf d l i) := fun i => qfr h fun t ht => hl t (List.mem_of_mem_take ht)
  unfold toP; split
  · exact Jk (h1 _)
  · exact h1 _
theorem qfs {d : TDisk} {s : List TPkg} (hs : s.length ≤ 9) (hsm : kh s) : ∀ t, t ∈ zY d s → wd t := fun t h => by
  unfold zY zG at h
  rcases List.mem_append.1 h with h | h
  · obtain ⟨j, hj, rfl⟩ := List.mem_map.1 h
    exact ⟨Nat.zero_le _, ko⟩
  · rcases List.mem_cons.1 h with rfl | h
    · exact ⟨hs, hsm⟩
    · obtain rfl := List.mem_singleton.1 h
      exact ⟨Nat.zero_le _, ko⟩
theorem yn {d : TDisk} {s : List TPkg} (hs : s.length ≤ 9) (hsm : kh s) : ∀ t, t ∈ zE d s → wd t := fun t h => by
  rcases List.mem_cons.1 h with rfl | h
  · exact ⟨hs, hsm⟩
  · exact qfs hs hsm t h
theorem yp {d : TDisk} (h : SDisk d) : ∀ t, t ∈ za d → wd t := fun t ht => by
  unfold za at ht; split at ht
  · exact qfs h.jl h.js t ht
  · cases ht
theorem jL : SDisk yX := ⟨Nat.zero_le _, ko, Nat.zero_le _, ko⟩
theorem qan {T : Tab} {os os2 : List SO} {t k off j lo hi sz : Nat} {l c : List SV} {F : Nat → SV → List SO → Out} {Q} (hti : (T.ti t).map (·.size) = some 1) (hj : os[j]? = some (.arr false sz l)) (hb : lo ≤ hi ∧ hi ≤ l.length)
    (hk : (os.set j (.frz sz l))[k]? = some (.box c)) (ho : Nat.blt off c.length = true) (hn : nf (some (.undef, (os.set j (.frz sz l)).set k (.box (y3 c off [.sl sz ((l.take hi).drop lo)])))) = some (.undef, os2)) (h2 : Ev (fun n => F n .undef os2) Q) :
    Ev (fun n => bd (qp T os t (.ptr k off) (some (.vw j lo hi))) (F n)) Q := by
  obtain ⟨q, hq, hqs⟩ := Option.map_eq_some_iff.1 hti
  refine zH (x := .undef) (os := os2) ?_ h2
  rw [jY] at hn
  obtain ⟨-, rfl⟩ := Prod.mk.inj (Option.some.inj hn)
  have ho' : off + 1 ≤ c.length := by simp only [Nat.blt_eq] at ho; omega
  have e1 : qhR os (.vw j lo hi) = some (.sl sz ((l.take hi).drop lo), os.set j (.frz sz l)) := by
    simp only [qhR, km, hj]
    rw [if_pos hb]
  simp only [qp, evN, e1, QW, hq, hqs, SV.cells, List.length_cons, List.length_nil, hk]
  simp [ho', xI]
def YM (b : List Int) (p N : Int) : SV → List SO → Prop := fun x os => ∃ (d : TDisk) (s : List TPkg) (q : Int),
  ((x = .tup [jG 1 d, .sl 4 (s.map zh)] ∧ os = [rd b q, .arr false 1 (d.files.map iI)] ∧ d.files.length = 6) ∨ (x = .tup [qR d, .sl 4 (s.map zh)] ∧ os = [rd b q] ∧ d.files.length = 5)) ∧ SDisk d ∧ s.length ≤ 4 ∧ (kh s ∧ zo s = true) ∧ p ≤ q ∧ q ≤ p + N
theorem YM.mono {b : List Int} {p p' N N' : Int} {x : SV} {os : List SO} (h : YM b p N x os) (h1 : p' ≤ p) (h2 : p + N ≤ p' + N') : YM b p' N' x os := by
  obtain ⟨d, s, q, hx, h3, h4, h5, h6, h7⟩ := h
  exact ⟨d, s, q, hx, h3, h4, h5, by omega, by omega⟩
theorem ZL {X : Nat → Out} {Q Q' : SV → List SO → Prop} (h : Ev X Q) (hq : ∀ x os, Q x os → Q' x os) : Ev X Q' := by
  obtain ⟨x, os, h1, h2⟩ := h
  exact ⟨x, os, hq _ _ h1, h2⟩
end Go.Proofs.Ytfjbclgbpdlkgaa
