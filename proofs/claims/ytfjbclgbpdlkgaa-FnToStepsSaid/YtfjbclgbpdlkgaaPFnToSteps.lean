/- The law FnToSteps, in S: S says yes, whatever the bytes. -/
import Derived.Test.YtfjbclgbpdlkgaaV59
namespace Go.Proofs.Ytfjbclgbpdlkgaa
open Go
set_option linter.unusedVariables false
set_option linter.unusedSimpArgs false
set_option maxHeartbeats 40000000
set_option maxRecDepth 100000
theorem is_yes : ∀ x os, Is (.v (.bool true)) [] x os → qk5 x os := by
  rintro x os ⟨rfl, rfl⟩; rfl
def AtTo (d : TDisk) (l : List TStep) (cut : Int) (torn : Bool) (i : Nat) (e : TDisk) : Prop := (i : Int) ≤ cut ∧ e = Qf d l i ∨ (i : Int) = cut + 1 ∧ e = toP d l cut torn
theorem Jq (d : TDisk) (hd : SDisk d) (h1 : q7 d = true) (l : List TStep) (hl : l.length ≤ 10) (hts : ∀ t, t ∈ l → wd t) (h3 : z9 l = true) (cut : Int) (hc : 0 ≤ cut ∧ cut ≤ 100) (torn : Bool) (y : TDisk) (hy : y = toP d l cut torn) (hL : DLen y) (hyy : q7 y = true) :
    ∀ i : Nat, i ≤ l.length → ∀ (e : TDisk) (k : Int) (c : Nat), k = i → AtTo d l cut torn i e →
    Ev (fun n => Kf (qd prg n) (n + 1) 0 (n + 1 - c) [.sl 4 (l.map zc), iI cut, bB torn, .ptr 0 0, .ptr 1 0, iI k] [.box [.sl 4 (y.db.map zh), .sl 1 (y.files.map iI), bB y.has, .sl 4 (y.jour.map zh)], .box [.sl 4 (e.db.map zh), .sl 1 (e.files.map iI), bB e.has, .sl 4 (e.jour.map zh)]]) (Is (.v (.bool true)) []) := by
  refine zC ?_
  intro i hi ih e k c hk he
  subst hk
  have h6 := zD h1
  have hend : ¬ (i < l.length ∧ (i : Int) ≤ cut) → y = e := fun h => by
    rw [hy]
    rcases he with ⟨h9, rfl⟩ | ⟨h9, rfl⟩
    · have hil : i = l.length := by omega
      rw [Qg _ (by omega), ← QT (i := i) (by omega)]
    · rfl
  have hsame : i < l.length → (i : Int) ≤ cut → e = Qf d l i ∧ DLen e ∧ q7 e = true := fun _ h => by
    rcases he with ⟨h9, rfl⟩ | ⟨h9, rfl⟩
    · exact ⟨rfl, (qfM hd hts i).len (by rw [wy]; omega), WB h1 h3 i⟩
    · omega
  have hdo : i < l.length → (i : Int) ≤ cut → Ex (fun m => qd prg m 24 [qR e, zc (nth l (Int.toNat (i : Int)))] []) (.tup [qR (doP e (nth l i)), bB true]) [] := fun h h2 => by
    obtain ⟨-, a, b⟩ := hsame h h2
    exact y2 e (nth l i) a (hts _ (zX h)).len b (kl.1 h3 _ (zX h))
  have hte : i < l.length → (i : Int) ≤ cut → Ex (fun m => qd prg m 28 [qR e, zc (nth l (Int.toNat (i : Int)))] []) (.tup [qR (kB e (nth l i)), bB true]) [] := fun h h2 => by
    obtain ⟨-, a, b⟩ := hsame h h2
    exact qfL e (nth l i) a (hts _ (zX h)).len b (kl.1 h3 _ (zX h))
  have hA : i < l.length → (i : Int) < cut → AtTo d l cut torn (i + 1) (doP e (nth l i)) := fun h h2 => .inl ⟨by omega, by rw [(hsame h (by omega)).1, jH h]⟩
  have hB : torn = true → i < l.length → (i : Int) ≤ cut → ¬ (i : Int) < cut → AtTo d l cut torn (i + 1) (kB e (nth l i)) := fun ht h h2 h4 => .inr ⟨by omega, by
    have hic : (i : Int) = cut := by omega
    subst ht
    rw [(hsame h h2).1, qfj (by omega), ← hic]
    have : cutN l (i : Int) = i := by unfold cutN; omega
    rw [this, Int.toNat_natCast]⟩
  have hC : torn = false → i < l.length → (i : Int) ≤ cut → ¬ (i : Int) < cut → AtTo d l cut torn (i + 1) e := fun ht h h2 h4 => .inr ⟨by omega, by
    have hic : (i : Int) = cut := by omega
    subst ht
    rw [(hsame h h2).1, qam, ← hic]
    have : cutN l (i : Int) = i := by unfold cutN; omega
    rw [this]⟩
  have hX := Qj y hL hyy
  cases torn
  all_goals (refine qjt _ ?_; unfold Xn)
  all_goals repeat' (first|((with_reducible refine eG ?_);first|(with_reducible first|refine qX ?_|refine qY ?_|refine qZ ?_|refine q4 ?_|refine zm ?_)|refine qe rfl ?_|refine qb rfl ?_|((with_reducible refine zn ?_ ?_)<;>intro h))|((with_reducible refine eB ?_);first|((with_reducible first|refine zf ?_ ?_|refine xk ?_ ?_)<;>intro h<;>try (exfalso;omega))|((with_reducible refine zi ?_ ?_);· omega)|refine qe rfl ?_|refine qb rfl ?_)|((with_reducible refine eL ?_);first|((with_reducible refine qI ?_ ?_);· rfl)|refine qy rfl rfl ?_|refine qG rfl rfl ?_|refine qz rfl rfl rfl ?_|refine qJ rfl rfl ?_|refine qH rfl rfl ?_|refine qK rfl ?_|refine qe rfl ?_|refine qb rfl ?_)|((with_reducible refine eI ?_);first|((with_reducible refine q5 ?_ ?_ ?_);(·rfl);· omega)|(refine qN rfl rfl ?_ ?_;(·first|omega|(simp only [List.length_cons,List.length_nil,List.length_map,List.length_append];omega)))|(refine qO rfl rfl ?_ ?_;(focus omega))|((with_reducible refine q9 ?_ ?_ ?_);(·rfl);· omega)|(refine qS rfl rfl ?_ ?_;(·first|omega|(simp only [List.length_cons,List.length_nil,List.length_map,List.length_append];omega)))|(refine qW rfl rfl ?_ ?_;(focus omega))|refine qe rfl ?_|refine qb rfl ?_)|((with_reducible refine eC ?_);first|((refine qk (hdo (by omega) (by omega)) rfl rfl ?_ rfl ?_);(focus first|exact .inl rfl|exact .inr rfl|(refine .inr ?_;simp [qo,qm,qh,qg,SO.hasSl,List.all_map,qi,SV.cells,Function.comp_def];done)))|((refine qk (hte (by omega) (by omega)) rfl rfl ?_ rfl ?_);(focus first|exact .inl rfl|exact .inr rfl|(refine .inr ?_;simp [qo,qm,qh,qg,SO.hasSl,List.all_map,qi,SV.cells,Function.comp_def];done)))|((refine qk (kE y e (hend (by omega)) (by rw [← hend (by omega)];exact hL)) rfl rfl ?_ rfl ?_);(focus first|exact .inl rfl|exact .inr rfl|(refine .inr ?_;simp [qo,qm,qh,qg,SO.hasSl,List.all_map,qi,SV.cells,Function.comp_def];done)))|((refine qk (hX ..) rfl rfl ?_ rfl ?_);(focus first|exact .inl rfl|exact .inr rfl|(refine .inr ?_;simp [qo,qm,qh,qg,SO.hasSl,List.all_map,qi,SV.cells,Function.comp_def];done))))|((with_reducible refine eK ?_);first|(with_reducible first|refine qT ?_|refine qU ?_)|((with_reducible refine qr ?_ ?_)<;>intro h))|((with_reducible refine eO ?_);first|refine qe rfl ?_|(refine qB rfl ?_ ?_<;>intro h<;>try (exfalso;simp_all;done))|refine qb rfl ?_|(refine qF rfl ?_ rfl ?_;(focus omega))|(refine qt rfl ?_ rfl ?_ ?_;(focus omega);(all_goals intro h)))|((with_reducible refine eD ?_);first|refine qe rfl ?_|refine qb rfl ?_|((with_reducible refine qC ?_ ?_)<;>intro h))|((with_reducible refine zg ?_ ?_);· intro _;rfl)|((with_reducible refine eH ?_);first|refine zA rfl ?_)|((with_reducible refine qju ?_);(unfold Xo))|((with_reducible refine qjv ?_);(unfold Xp))|((with_reducible refine qjw ?_);(unfold Xq))|(with_reducible first|refine XN ?_|refine qep ?_)|(with_reducible refine ku ?_ ?_)|((with_reducible refine ih ?_ _ _ _ ?_ (hA (by omega) (by omega)))<;>(first|omega|assumption|(simp only [*,List.map_append,List.length_append,List.length_cons,List.length_nil,List.map_cons,List.map_nil];done)|(simp_all;done)|(simp_all;omega)))|((with_reducible refine ih ?_ _ _ _ ?_ (hB rfl (by omega) (by omega) (by omega)))<;>(first|omega|assumption|(simp only [*,List.map_append,List.length_append,List.length_cons,List.length_nil,List.map_cons,List.map_nil];done)|(simp_all;done)|(simp_all;omega)))|((with_reducible refine ih ?_ _ _ _ ?_ (hC rfl (by omega) (by omega) (by omega)))<;>(first|omega|assumption|(simp only [*,List.map_append,List.length_append,List.length_cons,List.length_nil,List.map_cons,List.map_nil];done)|(simp_all;done)|(simp_all;omega)))|refine qq rfl ?_)
  all_goals first
    | exact ⟨rfl, rfl⟩
    | trace_state
theorem pureFnToSteps : ∀ l : List Int, l.length ≤ 140737488351232 → (∀ x ∈ l, (Lit.int .u8 x).wf = true) → ∃ n los, qd prg n 12 [.sl 1 (l.map bI)] [] = some (.v (.bool true), los) := by
  intro l hlen hw
  refine wM ?_
  (refine U12 (nl := 0) rfl ?_; unfold B12)
  repeat' (first|((with_reducible refine eG ?_);first|(with_reducible first|refine qX ?_|refine qY ?_|refine qZ ?_|refine q4 ?_|refine zm ?_)|refine qe rfl ?_|refine qb rfl ?_|((with_reducible refine zn ?_ ?_)<;>intro h))|((with_reducible refine eB ?_);first|((with_reducible first|refine ka ?_ ?_|refine zr ?_ ?_|refine kb ?_ ?_)<;>intro h<;>try (exfalso;omega))|refine qe rfl ?_|refine qb rfl ?_)|((with_reducible refine eL ?_);first|((with_reducible refine qI ?_ ?_);· rfl)|refine qy rfl rfl ?_|refine qG rfl rfl ?_|refine qz rfl rfl rfl ?_|refine qJ rfl rfl ?_|refine qH rfl rfl ?_|refine qK rfl ?_|refine qe rfl ?_|refine qb rfl ?_)|((with_reducible refine eC ?_);first|((refine zk (QC l (kW hw)) rfl rfl ?_);((rintro _ _ ⟨d,st,cut,torn,rfl,rfl,hd,hf,hl,hts,hc1,hc2⟩)<;>(((rcases qav d st hd hf (by omega) hts cut torn with ⟨y,hy,h1,h2,h3,hL,hyy,hS,hI⟩|⟨hS,hI⟩);(have hG := fun (y : TDisk) hy h1 h2 h3 hL hyy (c : Nat) => ZL (Jq d hd h1 st hl hts h3 cut ⟨h2,hc2⟩ torn y hy hL hyy 0 (Nat.zero_le _) d 0 c rfl (.inl ⟨h2,rfl⟩)) is_yes)))<;>(first|(refine zF ?_ rfl ?_;(focus first|exact .inl rfl|exact .inr rfl|(refine .inr ?_;simp [qo,qm,qh,qg,SO.hasSl,List.all_map,qi,SV.cells,Function.comp_def];done)))|(refine zl ?_ rfl ?_;(focus first|rfl|(simp [qo,qm,qh,qg,SO.hasSl,List.all_map,qi,SV.cells,Function.comp_def];done))))))|((refine qk (hS ..) rfl rfl ?_ rfl ?_);(focus first|exact .inl rfl|exact .inr rfl|(refine .inr ?_;simp [qo,qm,qh,qg,SO.hasSl,List.all_map,qi,SV.cells,Function.comp_def];done)))|((refine qk (hI ..) rfl rfl ?_ rfl ?_);(focus first|exact .inl rfl|exact .inr rfl|(refine .inr ?_;simp [qo,qm,qh,qg,SO.hasSl,List.all_map,qi,SV.cells,Function.comp_def];done)))|((refine qk (kE kw kw rfl qci) rfl rfl ?_ rfl ?_);(focus first|exact .inl rfl|exact .inr rfl|(refine .inr ?_;simp [qo,qm,qh,qg,SO.hasSl,List.all_map,qi,SV.cells,Function.comp_def];done)))|((refine qk (kE y y rfl hL) rfl rfl ?_ rfl ?_);(focus first|exact .inl rfl|exact .inr rfl|(refine .inr ?_;simp [qo,qm,qh,qg,SO.hasSl,List.all_map,qi,SV.cells,Function.comp_def];done))))|((with_reducible refine eK ?_);first|(with_reducible first|refine qT ?_|refine qU ?_)|((with_reducible refine qr ?_ ?_)<;>intro h))|((with_reducible refine eO ?_);first|refine qe rfl ?_|(refine qB rfl ?_ ?_<;>intro h<;>try (exfalso;simp_all;done))|refine qb rfl ?_|(refine qF rfl ?_ rfl ?_;(focus omega))|(refine qt rfl ?_ rfl ?_ ?_;(focus omega);(all_goals intro h)))|((with_reducible refine eD ?_);first|refine qe rfl ?_|refine qb rfl ?_|((with_reducible refine qC ?_ ?_)<;>intro h))|((with_reducible refine eH ?_);first|refine zA rfl ?_)|(with_reducible exact hG y hy h1 h2 h3 hL hyy _)|(with_reducible first|refine XN ?_|refine qep ?_)|refine qq rfl ?_)
  all_goals first
    | rfl
    | trace_state
end Go.Proofs.Ytfjbclgbpdlkgaa
