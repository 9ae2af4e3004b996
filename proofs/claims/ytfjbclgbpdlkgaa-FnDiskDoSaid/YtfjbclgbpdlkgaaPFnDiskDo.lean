/- The law FnDiskDo, in S: S says yes, whatever the bytes. -/
import Derived.Test.YtfjbclgbpdlkgaaV59
namespace Go.Proofs.Ytfjbclgbpdlkgaa
open Go
set_option linter.unusedVariables false
set_option linter.unusedSimpArgs false
set_option maxHeartbeats 40000000
set_option maxRecDepth 100000
theorem qhJ {d : TDisk} {t : TStep} {x : TDisk} (h : Gone d t x) : (t.kind = 1 ∨ t.kind = 2 ∨ t.kind = 3 ∨ t.kind = 4) ∧ (t.kind = 2 → 0 ≤ t.path ∧ t.path ≤ 5) ∧
    (t.kind = 1 → x.has = true ∧ x.jour = t.pkgs ∧ ∀ h, d.has = h → (⟨x.db, x.files, h, d.jour⟩ : TDisk) = d) ∧
    (t.kind = 2 → nth x.files t.path.toNat = t.data ∧ (⟨x.db, x.files.set t.path.toNat (nth d.files t.path.toNat), x.has, x.jour⟩ : TDisk) = d) ∧
    (t.kind = 3 → x.db = t.pkgs ∧ (⟨d.db, x.files, x.has, x.jour⟩ : TDisk) = d) ∧
    (t.kind = 4 → x.has = false ∧ ∀ h, d.has = h → (⟨x.db, x.files, h, d.jour⟩ : TDisk) = d) := by
  obtain ⟨rfl, h1, h2, h3, h4, h5, h6⟩ := h
  refine ⟨?_, ?_, ?_, ?_, ?_, ?_⟩
  · rcases QG h2 with ⟨k, -⟩ | ⟨k, -⟩ | ⟨k, -⟩ | k <;> omega
  · intro k
    rcases QG h2 with ⟨k, -⟩ | ⟨k, h, -⟩ | ⟨k, -⟩ | k <;> omega
  · intro k; rw [doP1 k]; exact ⟨rfl, rfl, fun h e => by subst e; rfl⟩
  · intro k
    have hp : 0 ≤ t.path ∧ t.path ≤ 5 := by rcases QG h2 with ⟨k, -⟩ | ⟨k, h, -⟩ | ⟨k, -⟩ | k <;> omega
    rw [Jl k]
    refine ⟨by dsimp only; rw [kL, if_pos ⟨rfl, by omega⟩], TDisk.ext' rfl ?_ rfl rfl⟩
    dsimp only
    rw [List.set_set]
    refine qap (by rw [List.length_set]) fun i hi => ?_
    rw [kL]
    split
    · rename_i h; rw [h.1]
    · rfl
  · intro k; rw [qfT k]; exact ⟨rfl, rfl⟩
  · intro k; rw [doP4 k]; exact ⟨rfl, fun h e => by subst e; rfl⟩
theorem qfI (d : TDisk) (t : TStep) (hd : SDisk d) (hf : d.files.length ≤ 6) (hts : wd t) :
    (∃ x, Gone d t x ∧ (x.files.length = 6 ∧ d.files.length = 6) ∧ (t.kind = 1 ∨ t.kind = 2 ∨ t.kind = 3 ∨ t.kind = 4) ∧ (t.kind = 2 → 0 ≤ t.path ∧ t.path ≤ 5) ∧
    (t.kind = 1 → x.has = true ∧ x.jour = t.pkgs ∧ ∀ h, d.has = h → (⟨x.db, x.files, h, d.jour⟩ : TDisk) = d) ∧
    (t.kind = 2 → nth x.files t.path.toNat = t.data ∧ (⟨x.db, x.files.set t.path.toNat (nth d.files t.path.toNat), x.has, x.jour⟩ : TDisk) = d) ∧
    (t.kind = 3 → x.db = t.pkgs ∧ (⟨d.db, x.files, x.has, x.jour⟩ : TDisk) = d) ∧
    (t.kind = 4 → x.has = false ∧ ∀ h, d.has = h → (⟨x.db, x.files, h, d.jour⟩ : TDisk) = d) ∧
    Ex (fun m => qd prg m 23 [qR d, zc t] []) (.tup [qR x, bB true]) [] ∧ Ex (fun m => qd prg m 24 [qR d, zc t] []) (.tup [qR x, bB true]) [] ∧ Ex (fun m => qd prg m 24 [qR x, zc t] []) (.tup [qR x, bB true]) [] ∧ Ex (fun m => qd prg m 19 [qR x] []) (bB true) [])
    ∨ (¬ (q7 d = true ∧ zO t = true) ∧ Ex (fun m => qd prg m 23 [qR d, zc t] []) (.tup [qR kw, bB false]) [] ∧ Ex (fun m => qd prg m 24 [qR d, zc t] []) (.tup [qR kw, bB false]) []) := by
  rcases WE d t hd hf hts with ⟨x, hx, hS, hI⟩ | h
  · obtain ⟨hk, hp, k1, k2, k3, k4⟩ := qhJ hx
    have h2 := y2 x t hx.len hts.len hx.ok hx.tok
    rw [show doP x t = x by rw [hx.eq, qfA hx.tok]] at h2
    exact .inl ⟨x, hx, ⟨hx.six, hx.dsix⟩, hk, hp, k1, k2, k3, k4, hS, hI, h2, Qj x hx.len hx.ok⟩
  · exact .inr h
theorem pureFnDiskDo : ∀ l : List Int, l.length ≤ 140737488351232 → (∀ x ∈ l, (Lit.int .u8 x).wf = true) → ∃ n los, qd prg n 4 [.sl 1 (l.map bI)] [] = some (.v (.bool true), los) := by
  intro l hlen hw
  refine wM ?_
  (refine U4 (nl := 0) rfl ?_; unfold B4)
  repeat' (first|((with_reducible refine eG ?_);first|(with_reducible first|refine qX ?_|refine qY ?_|refine qZ ?_|refine q4 ?_|refine zm ?_)|refine qe rfl ?_|refine qb rfl ?_|((with_reducible refine zn ?_ ?_)<;>intro h))|((with_reducible refine eB ?_);first|((with_reducible first|refine ka ?_ ?_|refine zr ?_ ?_|refine kb ?_ ?_)<;>intro h<;>try (exfalso;omega))|refine qe rfl ?_|refine qb rfl ?_)|((with_reducible refine eL ?_);first|((with_reducible refine qI ?_ ?_);· rfl)|refine qy rfl rfl ?_|refine qG rfl rfl ?_|refine qz rfl rfl rfl ?_|refine qJ rfl rfl ?_|refine qH rfl rfl ?_|refine qK rfl ?_|refine qe rfl ?_|refine qb rfl ?_)|((with_reducible refine eI ?_);first|((with_reducible refine q5 ?_ ?_ ?_);(·rfl);· omega)|(refine qN rfl rfl ?_ ?_;(·first|omega|(simp only [List.length_cons,List.length_nil,List.length_map,List.length_append];omega)))|(refine qO rfl rfl ?_ ?_;(focus omega))|((with_reducible refine q9 ?_ ?_ ?_);(·rfl);· omega)|(refine qS rfl rfl ?_ ?_;(·first|omega|(simp only [List.length_cons,List.length_nil,List.length_map,List.length_append];omega)))|(refine qW rfl rfl ?_ ?_;(focus omega))|refine qe rfl ?_|refine qb rfl ?_)|((with_reducible refine eC ?_);first|((refine zk (yq l (kW hw)) rfl rfl ?_);((rintro _ _ ⟨d,t,rfl,rfl,hd,hf,hts⟩)<;>((rcases qfI d t hd hf hts with ⟨x,hx,⟨hx6,hd6⟩,hk,hp,k1,k2,k3,k4,hS,hI,h2,h3⟩|⟨hn,hS,hI⟩))<;>(first|(refine zF ?_ rfl ?_;(focus first|exact .inl rfl|exact .inr rfl|(refine .inr ?_;simp [qo,qm,qh,qg,SO.hasSl,List.all_map,qi,SV.cells,Function.comp_def];done)))|(refine zl ?_ rfl ?_;(focus first|rfl|(simp [qo,qm,qh,qg,SO.hasSl,List.all_map,qi,SV.cells,Function.comp_def];done))))))|((refine qk (hS ..) rfl rfl ?_ rfl ?_);(focus first|exact .inl rfl|exact .inr rfl|(refine .inr ?_;simp [qo,qm,qh,qg,SO.hasSl,List.all_map,qi,SV.cells,Function.comp_def];done)))|((refine qk (hI ..) rfl rfl ?_ rfl ?_);(focus first|exact .inl rfl|exact .inr rfl|(refine .inr ?_;simp [qo,qm,qh,qg,SO.hasSl,List.all_map,qi,SV.cells,Function.comp_def];done)))|((refine qk (kE kw kw rfl qci) rfl rfl ?_ rfl ?_);(focus first|exact .inl rfl|exact .inr rfl|(refine .inr ?_;simp [qo,qm,qh,qg,SO.hasSl,List.all_map,qi,SV.cells,Function.comp_def];done)))|((refine qk (kE x x rfl hx.len) rfl rfl ?_ rfl ?_);(focus first|exact .inl rfl|exact .inr rfl|(refine .inr ?_;simp [qo,qm,qh,qg,SO.hasSl,List.all_map,qi,SV.cells,Function.comp_def];done)))|((refine qk (h2 ..) rfl rfl ?_ rfl ?_);(focus first|exact .inl rfl|exact .inr rfl|(refine .inr ?_;simp [qo,qm,qh,qg,SO.hasSl,List.all_map,qi,SV.cells,Function.comp_def];done)))|((refine qk (h3 ..) rfl rfl ?_ rfl ?_);(focus first|exact .inl rfl|exact .inr rfl|(refine .inr ?_;simp [qo,qm,qh,qg,SO.hasSl,List.all_map,qi,SV.cells,Function.comp_def];done)))|((refine qk (Qi x.jour t.pkgs (k1 (by assumption)).2.1 hts.len.1 hts.len.2) rfl rfl ?_ rfl ?_);(focus first|exact .inl rfl|exact .inr rfl|(refine .inr ?_;simp [qo,qm,qh,qg,SO.hasSl,List.all_map,qi,SV.cells,Function.comp_def];done)))|((refine qk (Qi x.db t.pkgs (k3 (by assumption)).1 hts.len.1 hts.len.2) rfl rfl ?_ rfl ?_);(focus first|exact .inl rfl|exact .inr rfl|(refine .inr ?_;simp [qo,qm,qh,qg,SO.hasSl,List.all_map,qi,SV.cells,Function.comp_def];done)))|((refine qk (kE ⟨x.db,x.files,true,d.jour⟩ d ((k1 (by assumption)).2.2 _ (by assumption)) (hd.len (by omega))) rfl rfl ?_ rfl ?_);(focus first|exact .inl rfl|exact .inr rfl|(refine .inr ?_;simp [qo,qm,qh,qg,SO.hasSl,List.all_map,qi,SV.cells,Function.comp_def];done)))|((refine qk (kE ⟨x.db,x.files,false,d.jour⟩ d ((k1 (by assumption)).2.2 _ (by assumption)) (hd.len (by omega))) rfl rfl ?_ rfl ?_);(focus first|exact .inl rfl|exact .inr rfl|(refine .inr ?_;simp [qo,qm,qh,qg,SO.hasSl,List.all_map,qi,SV.cells,Function.comp_def];done)))|((refine qk (kE ⟨x.db,x.files,true,d.jour⟩ d ((k4 (by omega)).2 _ (by assumption)) (hd.len (by omega))) rfl rfl ?_ rfl ?_);(focus first|exact .inl rfl|exact .inr rfl|(refine .inr ?_;simp [qo,qm,qh,qg,SO.hasSl,List.all_map,qi,SV.cells,Function.comp_def];done)))|((refine qk (kE ⟨x.db,x.files,false,d.jour⟩ d ((k4 (by omega)).2 _ (by assumption)) (hd.len (by omega))) rfl rfl ?_ rfl ?_);(focus first|exact .inl rfl|exact .inr rfl|(refine .inr ?_;simp [qo,qm,qh,qg,SO.hasSl,List.all_map,qi,SV.cells,Function.comp_def];done)))|((refine qk (kE ⟨d.db,x.files,x.has,x.jour⟩ d (k3 (by assumption)).2 (hd.len (by omega))) rfl rfl ?_ rfl ?_);(focus first|exact .inl rfl|exact .inr rfl|(refine .inr ?_;simp [qo,qm,qh,qg,SO.hasSl,List.all_map,qi,SV.cells,Function.comp_def];done)))|((refine qk (kE ⟨x.db,x.files.set t.path.toNat (nth d.files t.path.toNat),x.has,x.jour⟩ d (k2 (by assumption)).2 (hd.len (by omega))) rfl rfl ?_ rfl ?_);(focus first|exact .inl rfl|exact .inr rfl|(refine .inr ?_;simp [qo,qm,qh,qg,SO.hasSl,List.all_map,qi,SV.cells,Function.comp_def];done))))|((with_reducible refine eA ?_);first|(refine kU rfl rfl rfl rfl rfl ?_ ?_;· first|decide|(simp only [List.length_append,List.length_cons,List.length_nil,List.length_map,List.length_take,List.length_drop];omega)))|((with_reducible refine eK ?_);first|(with_reducible first|refine qT ?_|refine qU ?_)|((with_reducible refine qr ?_ ?_)<;>intro h))|((with_reducible refine eO ?_);first|refine qe rfl ?_|(refine qB rfl ?_ ?_<;>intro h<;>try (exfalso;simp_all;done))|refine qb rfl ?_|(refine qF rfl ?_ rfl ?_;(focus omega))|(refine qt rfl ?_ rfl ?_ ?_;(focus omega);(all_goals intro h))|(refine zP rfl rfl rfl ?_ ?_ ?_;(·simp);(·first|omega|(simp only [List.length_cons,List.length_nil,List.length_map,List.length_append];omega));intro w))|((with_reducible refine eD ?_);first|refine qe rfl ?_|refine qb rfl ?_|( (refine wr (f := iI) (a := nth d.files t.path.toNat) rfl rfl rfl rfl rfl rfl rfl rfl ?_ rfl ?_;(focus omega)))|((with_reducible refine qC ?_ ?_)<;>intro h))|refine qq rfl ?_)
  all_goals first
    | rfl
    | (exfalso; have := (k1 (by assumption)).1; simp_all; done)
    | (exfalso; have := (k4 (by omega)).1; simp_all; done)
    | (exfalso; have := (k2 (by omega)).1; omega)
    | trace_state
end Go.Proofs.Ytfjbclgbpdlkgaa
