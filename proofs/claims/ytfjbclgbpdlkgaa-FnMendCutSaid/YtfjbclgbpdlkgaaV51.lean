/- The evaluator S and what it says of functions: V51. -/
import Derived.Test.YtfjbclgbpdlkgaaV50
/- Disks: the steps from one to another, and to go them. -/
namespace Go.Proofs.Ytfjbclgbpdlkgaa
open Go
set_option linter.unusedVariables false
set_option linter.unusedSimpArgs false
set_option maxHeartbeats 4000000
def zG (w f : List Int) (k : Nat) : List TStep := ((List.range k).filter fun i : Nat => decide (nth w i ≠ nth f i)).map fun i : Nat => ⟨2, i, nth w i, []⟩
theorem wV {w f : List Int} {i : Nat} (h : nth w i ≠ nth f i) : zG w f (i + 1) = zG w f i ++ [⟨2, i, nth w i, []⟩] := by
  unfold zG; rw [List.range_succ, List.filter_append, List.map_append]; simp [h]
theorem xr {w f : List Int} {i : Nat} (h : nth w i = nth f i) : zG w f (i + 1) = zG w f i := by
  unfold zG; rw [List.range_succ, List.filter_append, List.map_append]; simp [h]
theorem Qe (w f : List Int) (k : Nat) : (zG w f k).length ≤ k := by
  unfold zG; rw [List.length_map]; exact Nat.le_trans (List.length_filter_le _ _) (by rw [List.length_range]; exact Nat.le_refl _)
def zY (d : TDisk) (s : List TPkg) : List TStep := zG (zj s) d.files 6 ++ [⟨3, 0, 0, s⟩, ⟨4, 0, 0, []⟩]
def zE (d : TDisk) (s : List TPkg) : List TStep := ⟨1, 0, 0, s⟩ :: zY d s
def za (d : TDisk) : List TStep := if d.has = true then zY d d.jour else []
def w8 (d : TDisk) (s : List TPkg) (i : Nat) : List TStep := ⟨1, 0, 0, s⟩ :: zG (zj s) d.files i
theorem ZA {d : TDisk} {s : List TPkg} {i : Nat} (h : nth (zj s) i ≠ nth d.files i) : w8 d s (i + 1) = w8 d s i ++ [⟨2, i, nth (zj s) i, []⟩] := by unfold w8; rw [wV h]; rfl
theorem KG {d : TDisk} {s : List TPkg} {i : Nat} (h : nth (zj s) i = nth d.files i) : w8 d s (i + 1) = w8 d s i := by unfold w8; rw [xr h]
theorem xY (d : TDisk) (s : List TPkg) (i : Nat) : (w8 d s i).length ≤ i + 1 := by unfold w8; rw [List.length_cons]; exact Nat.succ_le_succ (Qe _ _ _)
theorem xZ (d : TDisk) (s : List TPkg) : w8 d s 6 ++ [⟨3, 0, 0, s⟩, ⟨4, 0, 0, []⟩] = zE d s := rfl
theorem wW (d : TDisk) (s : List TPkg) : (zE d s).length ≤ 9 := by
  rw [← xZ, List.length_append]; have := xY d s 6; simp only [List.length_cons, List.length_nil]; omega
theorem yK (d : TDisk) (s : List TPkg) : (zY d s).length ≤ 8 := by have := wW d s; unfold zE at this; rw [List.length_cons] at this; omega
theorem KH (d : TDisk) : (za d).length ≤ 8 := by
  unfold za; split
  · exact yK _ _
  · simp
theorem qal {T : Tab} {os : List SO} (nl : Nat) {j lo hi sz : Nat} {l : List SV} {y : SV} {os' : List SO} {Q} (hm : ((0 : Nat) :: ([] : List Nat)).contains 0 = true) (hj : os[j]? = some (.arr false sz l)) (hb : lo ≤ hi ∧ hi ≤ l.length)
    (hn : nf (zq T nl (os.set j (.frz sz l)) (some [.sl sz ((l.take hi).drop lo)])) = some (y, os')) (h : Q y os') : Ev (fun _ => kY T [0] nl os (qx (some (.vw j lo hi)) (some []))) Q := by
  refine ⟨y, os', h, 0, fun n _ => ?_⟩
  rw [jY] at hn
  show kY T [0] nl os (some [.vw j lo hi]) = _
  have e1 : WH [0] 0 [.vw j lo hi] os = some ([.sl sz ((l.take hi).drop lo)], os.set j (.frz sz l)) := by
    simp only [WH, km, hj, List.contains_cons, BEq.rfl, Bool.true_or]
    rw [if_pos hb]
  unfold kY
  simp only [e1]
  exact hn
theorem Wx (d : TDisk) (s : List TPkg) (hs : s.length ≤ 2000000) (hp0 : PL s) (hf : d.files.length = 6) : ∀ i : Nat, i ≤ 6 → ∀ (L : List SV) (k : Int) (c : Nat), k = i → L = (w8 d s i).map zc →
    Ev (fun n => XC (qd prg n) (n + 1) 1 (n + 1 - c) [.sl 4 (s.map zh), .ptr 1 0, .osl 2, .osl 3, iI k] [.arr true 1 (d.files.map iI), .box [.sl 4 (d.db.map zh), .osl 0, bB d.has, .sl 4 (d.jour.map zh)], .arr false 4 L, .arr false 1 ((zj s).map iI)]) (Is (.osl 1) [.arr true 1 (d.files.map iI), .arr false 4 ((zE d s).map zc)]) := by
  refine zC ?_
  intro i hi ih L k c hk hL
  subst hk
  have hw := kv s
  have hLl : L.length ≤ 7 := by rw [hL, List.length_map]; exact Nat.le_trans (xY _ _ _) (by omega)
  (refine qis _ ?_; unfold J3)
  repeat' (first|((with_reducible refine eB ?_);first|((with_reducible first|refine zf ?_ ?_|refine kb ?_ ?_)<;>intro h<;>try (exfalso;omega))|((with_reducible refine zi ?_ ?_);· omega)|refine qe rfl ?_|refine qb rfl ?_)|((with_reducible refine eL ?_);first|((with_reducible refine qI ?_ ?_);· rfl)|refine qy rfl rfl ?_|refine qG rfl rfl ?_|refine qz rfl rfl rfl ?_|refine qJ rfl rfl ?_|refine qH rfl rfl ?_|refine qK rfl ?_|refine qe rfl ?_|refine qb rfl ?_)|((with_reducible refine eI ?_);first|((with_reducible refine q5 ?_ ?_ ?_);(·rfl);· omega)|(refine qN rfl rfl ?_ ?_;(·first|omega|(simp only [List.length_cons,List.length_nil,List.length_map,List.length_append];omega)))|(refine qO rfl rfl ?_ ?_;(focus omega))|((with_reducible refine q9 ?_ ?_ ?_);(·rfl);· omega)|(refine qS rfl rfl ?_ ?_;(·first|omega|(simp only [List.length_cons,List.length_nil,List.length_map,List.length_append];omega)))|(refine qW rfl rfl ?_ ?_;(focus omega))|refine qe rfl ?_|refine qb rfl ?_)|((with_reducible refine eC ?_);first|((refine qk (w7 s hs hp0) rfl rfl ?_ rfl ?_);(focus first|exact .inl rfl|exact .inr rfl|(refine .inr ?_;simp [qo,qm,qh,qg,SO.hasSl,List.all_map,qi,SV.cells,Function.comp_def];done))))|((with_reducible refine eA ?_);first|(refine kU rfl rfl rfl rfl rfl ?_ ?_;· first|decide|(simp only [List.length_append,List.length_cons,List.length_nil,List.length_map,List.length_take,List.length_drop];omega)))|((with_reducible refine eK ?_);first|(with_reducible first|refine qT ?_|refine qU ?_)|((with_reducible refine qr ?_ ?_)<;>intro h))|((with_reducible refine eO ?_);first|refine qe rfl ?_|(refine qB rfl ?_ ?_<;>intro h<;>try (exfalso;simp_all;done))|refine qb rfl ?_|(refine qF rfl ?_ rfl ?_;(focus omega))|(refine qt rfl ?_ rfl ?_ ?_;(focus omega);(all_goals intro h))|(refine zP rfl rfl rfl ?_ ?_ ?_;(·simp);(·first|omega|(simp only [List.length_cons,List.length_nil,List.length_map,List.length_append];omega));intro w))|((with_reducible refine eD ?_);first|refine qe rfl ?_|refine qb rfl ?_)|((with_reducible refine eH ?_);first|refine zA rfl ?_)|((with_reducible refine qit ?_);(unfold J4))|(with_reducible first|refine Yn ?_|refine J9 ?_)|((with_reducible refine ih ?_ _ _ _ ?_ ?_)<;>(first|omega|assumption|((first|(rw [ZA h,List.map_append,hL];rfl)|(rw [KG (by omega)];exact hL)))|(simp only [*,List.map_append,List.length_append,List.length_cons,List.length_nil,List.map_cons,List.map_nil];done)|(simp_all;done)|(simp_all;omega)))|refine qq rfl ?_)
  all_goals first
    | (obtain rfl : i = 6 := by omega
       rw [← xZ, List.map_append, ← hL]; exact ⟨rfl, rfl⟩)
    | trace_state
theorem yY (d : TDisk) (s : List TPkg) (hs : s.length ≤ 2000000) (hp0 : PL s) (hpt : yy s) (hf : d.files.length = 6) :
    Ex (fun m => qd prg m 68 [.ag [.sl 4 (d.db.map zh), .osl 0, bB d.has, .sl 4 (d.jour.map zh)], .sl 4 (s.map zh)] [.arr true 1 (d.files.map iI)]) (.osl 1) [.arr true 1 (d.files.map iI), .arr false 4 ((zE d s).map zc)] := by
  refine zz.1 ?_
  have hF := xC s hs hp0 hpt
  (refine U68 (nl := 1) rfl ?_; unfold B68)
  repeat' (first|((with_reducible refine eC ?_);first|((refine qk (w7 s hs hp0) rfl rfl ?_ rfl ?_);(focus first|exact .inl rfl|exact .inr rfl|(refine .inr ?_;simp [qo,qm,qh,qg,SO.hasSl,List.all_map,qi,SV.cells,Function.comp_def];done)))|((refine qk (hF ..) rfl rfl ?_ rfl ?_);(focus first|exact .inl rfl|exact .inr rfl|(refine .inr ?_;simp [qo,qm,qh,qg,SO.hasSl,List.all_map,qi,SV.cells,Function.comp_def];done))))|((with_reducible refine eD ?_);first|refine qe rfl ?_|refine qb rfl ?_)|((with_reducible refine eH ?_);first|refine zA rfl ?_)|(with_reducible first|refine Yn ?_|refine J9 ?_)|( exact Wx d s hs hp0 hf 0 (by omega) _ 0 _ rfl rfl)|refine qq rfl ?_)
theorem YJ (d : TDisk) (s : List TPkg) (hs : s.length ≤ 2000000) (hp0 : PL s) (hf : d.files.length = 6) : ∀ i : Nat, i ≤ 6 → ∀ (L : List SV) (k : Int) (c : Nat), k = i → L = (w8 d s i).map zc →
    Ev (fun n => XC (qd prg n) (n + 1) 0 (n + 1 - c) [.sl 4 (s.map zh), .ptr 0 0, .osl 1, .osl 2, iI k] [.box [.sl 4 (d.db.map zh), .sl 1 (d.files.map iI), bB d.has, .sl 4 (d.jour.map zh)], .arr false 4 L, .arr false 1 ((zj s).map iI)]) (Is (.osl 0) [.arr false 4 ((zE d s).map zc)]) := by
  refine zC ?_
  intro i hi ih L k c hk hL
  subst hk
  have hw := kv s
  have hLl : L.length ≤ 7 := by rw [hL, List.length_map]; exact Nat.le_trans (xY _ _ _) (by omega)
  (refine qis _ ?_; unfold J3)
  repeat' (first|((with_reducible refine eB ?_);first|((with_reducible first|refine zf ?_ ?_|refine kb ?_ ?_)<;>intro h<;>try (exfalso;omega))|((with_reducible refine zi ?_ ?_);· omega)|refine qe rfl ?_|refine qb rfl ?_)|((with_reducible refine eL ?_);first|((with_reducible refine qI ?_ ?_);· rfl)|refine qy rfl rfl ?_|refine qG rfl rfl ?_|refine qz rfl rfl rfl ?_|refine qJ rfl rfl ?_|refine qH rfl rfl ?_|refine qK rfl ?_|refine qe rfl ?_|refine qb rfl ?_)|((with_reducible refine eI ?_);first|((with_reducible refine q5 ?_ ?_ ?_);(·rfl);· omega)|(refine qN rfl rfl ?_ ?_;(·first|omega|(simp only [List.length_cons,List.length_nil,List.length_map,List.length_append];omega)))|(refine qO rfl rfl ?_ ?_;(focus omega))|((with_reducible refine q9 ?_ ?_ ?_);(·rfl);· omega)|(refine qS rfl rfl ?_ ?_;(·first|omega|(simp only [List.length_cons,List.length_nil,List.length_map,List.length_append];omega)))|(refine qW rfl rfl ?_ ?_;(focus omega))|refine qe rfl ?_|refine qb rfl ?_)|((with_reducible refine eC ?_);first|((refine qk (w7 s hs hp0) rfl rfl ?_ rfl ?_);(focus first|exact .inl rfl|exact .inr rfl|(refine .inr ?_;simp [qo,qm,qh,qg,SO.hasSl,List.all_map,qi,SV.cells,Function.comp_def];done))))|((with_reducible refine eA ?_);first|(refine kU rfl rfl rfl rfl rfl ?_ ?_;· first|decide|(simp only [List.length_append,List.length_cons,List.length_nil,List.length_map,List.length_take,List.length_drop];omega)))|((with_reducible refine eK ?_);first|(with_reducible first|refine qT ?_|refine qU ?_)|((with_reducible refine qr ?_ ?_)<;>intro h))|((with_reducible refine eO ?_);first|refine qe rfl ?_|(refine qB rfl ?_ ?_<;>intro h<;>try (exfalso;simp_all;done))|refine qb rfl ?_|(refine qF rfl ?_ rfl ?_;(focus omega))|(refine qt rfl ?_ rfl ?_ ?_;(focus omega);(all_goals intro h))|(refine zP rfl rfl rfl ?_ ?_ ?_;(·simp);(·first|omega|(simp only [List.length_cons,List.length_nil,List.length_map,List.length_append];omega));intro w))|((with_reducible refine eD ?_);first|refine qe rfl ?_|refine qb rfl ?_)|((with_reducible refine eH ?_);first|refine zA rfl ?_)|((with_reducible refine qit ?_);(unfold J4))|(with_reducible first|refine Yn ?_|refine J9 ?_)|((with_reducible refine ih ?_ _ _ _ ?_ ?_)<;>(first|omega|assumption|((first|(rw [ZA h,List.map_append,hL];rfl)|(rw [KG (by omega)];exact hL)))|(simp only [*,List.map_append,List.length_append,List.length_cons,List.length_nil,List.map_cons,List.map_nil];done)|(simp_all;done)|(simp_all;omega)))|refine qq rfl ?_)
  all_goals first
    | (obtain rfl : i = 6 := by omega
       rw [← xZ, List.map_append, ← hL]; exact ⟨rfl, rfl⟩)
    | trace_state
theorem KI (d : TDisk) (s : List TPkg) (hs : s.length ≤ 2000000) (hp0 : PL s) (hpt : yy s) (hf : d.files.length = 6) :
    Ex (fun m => qd prg m 68 [.ag [.sl 4 (d.db.map zh), .sl 1 (d.files.map iI), bB d.has, .sl 4 (d.jour.map zh)], .sl 4 (s.map zh)] []) (.osl 0) [.arr false 4 ((zE d s).map zc)] := by
  refine zz.1 ?_
  have hF := xC s hs hp0 hpt
  (refine U68 (nl := 0) rfl ?_; unfold B68)
  repeat' (first|((with_reducible refine eC ?_);first|((refine qk (w7 s hs hp0) rfl rfl ?_ rfl ?_);(focus first|exact .inl rfl|exact .inr rfl|(refine .inr ?_;simp [qo,qm,qh,qg,SO.hasSl,List.all_map,qi,SV.cells,Function.comp_def];done)))|((refine qk (hF ..) rfl rfl ?_ rfl ?_);(focus first|exact .inl rfl|exact .inr rfl|(refine .inr ?_;simp [qo,qm,qh,qg,SO.hasSl,List.all_map,qi,SV.cells,Function.comp_def];done))))|((with_reducible refine eD ?_);first|refine qe rfl ?_|refine qb rfl ?_)|((with_reducible refine eH ?_);first|refine zA rfl ?_)|(with_reducible first|refine Yn ?_|refine J9 ?_)|( exact YJ d s hs hp0 hf 0 (by omega) _ 0 _ rfl rfl)|refine qq rfl ?_)
theorem ZB (d : TDisk) (hs : d.jour.length ≤ 2000000) (hp0 : PL d.jour) (hpt : yy d.jour) (hf : d.files.length = 6) :
    Ex (fun m => qd prg m 45 [.ag [.sl 4 (d.db.map zh), .osl 0, bB d.has, .sl 4 (d.jour.map zh)]] [.arr true 1 (d.files.map iI)]) (.sl 4 ((za d).map zc)) [.arr true 1 (d.files.map iI)] := by
  refine zz.1 ?_
  have hS := yY d d.jour hs hp0 hpt hf
  have hl := wW d d.jour
  have hl2 := yK d d.jour
  have hl1 : 1 ≤ (zE d d.jour).length := Nat.le_add_left 1 _
  have e1 : (((zE d d.jour).map zc).take (((zE d d.jour).map zc).length)).drop (1 : Int).toNat = (zY d d.jour).map zc := by rw [List.take_length]; rfl
  (refine U45 (nl := 1) rfl ?_; unfold B45)
  repeat' (first|((with_reducible refine eS ?_);first|((with_reducible first|refine wl ?_ ?_ ?_|refine wm ?_ ?_ ?_);(·rfl);· omega)|((first|refine kz rfl rfl ?_ ?_|refine kA rfl rfl ?_ ?_);(·first|omega|(simp only [List.length_cons,List.length_nil,List.length_map,List.length_append];omega)))|refine qe rfl ?_|refine qb rfl ?_)|((with_reducible refine eC ?_);first|((refine qk (hS ..) rfl rfl ?_ rfl ?_);(focus first|exact .inl rfl|exact .inr rfl|(refine .inr ?_;simp [qo,qm,qh,qg,SO.hasSl,List.all_map,qi,SV.cells,Function.comp_def];done))))|((with_reducible refine eK ?_);first|(with_reducible first|refine qT ?_|refine qU ?_)|((with_reducible refine qr ?_ ?_)<;>intro h))|((with_reducible refine eO ?_);first|refine qe rfl ?_|(refine qB rfl ?_ ?_<;>intro h<;>try (exfalso;simp_all;done))|refine qb rfl ?_|(refine qF rfl ?_ rfl ?_;(focus omega))|(refine qt rfl ?_ rfl ?_ ?_;(focus omega);(all_goals intro h))|(refine zP rfl rfl rfl ?_ ?_ ?_;(·simp);(·first|omega|(simp only [List.length_cons,List.length_nil,List.length_map,List.length_append];omega));intro w))|((with_reducible refine eD ?_);first|refine qe rfl ?_|refine qb rfl ?_)|refine qq rfl ?_)
  all_goals first
    | (unfold za; rw [if_pos (by assumption)]; exact ⟨rfl, rfl⟩)
    | (unfold za; rw [if_neg (by simp [*])]; exact ⟨rfl, rfl⟩)
    | (refine qal 1 rfl rfl ⟨by simp only [List.length_map]; omega, Nat.le_refl _⟩ rfl ?_; rw [e1]; unfold za; rw [if_pos (by assumption)]; exact ⟨rfl, rfl⟩)
    | trace_state
theorem qb9 (d : TDisk) (hs : d.jour.length ≤ 2000000) (hp0 : PL d.jour) (hpt : yy d.jour) (hf : d.files.length = 6) :
    Ex (fun m => qd prg m 45 [.ag [.sl 4 (d.db.map zh), .sl 1 (d.files.map iI), bB d.has, .sl 4 (d.jour.map zh)]] []) (.sl 4 ((za d).map zc)) [] := by
  refine zz.1 ?_
  have hS := KI d d.jour hs hp0 hpt hf
  have hl := wW d d.jour
  have hl2 := yK d d.jour
  have hl1 : 1 ≤ (zE d d.jour).length := Nat.le_add_left 1 _
  have e1 : (((zE d d.jour).map zc).take (((zE d d.jour).map zc).length)).drop (1 : Int).toNat = (zY d d.jour).map zc := by rw [List.take_length]; rfl
  (refine U45 (nl := 0) rfl ?_; unfold B45)
  repeat' (first|((with_reducible refine eS ?_);first|((with_reducible first|refine wl ?_ ?_ ?_|refine wm ?_ ?_ ?_);(·rfl);· omega)|((first|refine kz rfl rfl ?_ ?_|refine kA rfl rfl ?_ ?_);(·first|omega|(simp only [List.length_cons,List.length_nil,List.length_map,List.length_append];omega)))|refine qe rfl ?_|refine qb rfl ?_)|((with_reducible refine eC ?_);first|((refine qk (hS ..) rfl rfl ?_ rfl ?_);(focus first|exact .inl rfl|exact .inr rfl|(refine .inr ?_;simp [qo,qm,qh,qg,SO.hasSl,List.all_map,qi,SV.cells,Function.comp_def];done))))|((with_reducible refine eK ?_);first|(with_reducible first|refine qT ?_|refine qU ?_)|((with_reducible refine qr ?_ ?_)<;>intro h))|((with_reducible refine eO ?_);first|refine qe rfl ?_|(refine qB rfl ?_ ?_<;>intro h<;>try (exfalso;simp_all;done))|refine qb rfl ?_|(refine qF rfl ?_ rfl ?_;(focus omega))|(refine qt rfl ?_ rfl ?_ ?_;(focus omega);(all_goals intro h))|(refine zP rfl rfl rfl ?_ ?_ ?_;(·simp);(·first|omega|(simp only [List.length_cons,List.length_nil,List.length_map,List.length_append];omega));intro w))|((with_reducible refine eD ?_);first|refine qe rfl ?_|refine qb rfl ?_)|refine qq rfl ?_)
  all_goals first
    | (unfold za; rw [if_pos (by assumption)]; exact ⟨rfl, rfl⟩)
    | (unfold za; rw [if_neg (by simp [*])]; exact ⟨rfl, rfl⟩)
    | (refine qal 0 rfl rfl ⟨by simp only [List.length_map]; omega, Nat.le_refl _⟩ rfl ?_; rw [e1]; unfold za; rw [if_pos (by assumption)]; exact ⟨rfl, rfl⟩)
    | trace_state
theorem YK (d : TDisk) (s : List TPkg) (hs : s.length ≤ 2000000) (hp0 : PL s) (hf : d.files.length = 6) : ∀ i : Nat, i ≤ 6 → ∀ (L : List SV) (k : Int) (c : Nat), k = i → L = (zG (zj s) d.files i).map zc →
    Ev (fun n => qbf (qd prg n) (n + 1) 0 (n + 1 - c) [.sl 4 (s.map zh), .ptr 0 0, .osl 1, .osl 2, iI 6, iI k] [.box [.sl 4 (d.db.map zh), .sl 1 (d.files.map iI), bB d.has, .sl 4 (d.jour.map zh)], .arr false 4 L, .arr false 1 ((zj s).map iI)]) (Is (.sl 4 ((zY d s).map zc)) []) := by
  refine zC ?_
  intro i hi ih L k c hk hL
  subst hk
  have hw := kv s
  have hLl : L.length ≤ 6 := by rw [hL, List.length_map]; exact Nat.le_trans (Qe _ _ _) (by omega)
  (refine UG67_3 _ ?_; unfold qd0)
  repeat' (first|((with_reducible refine eB ?_);first|((with_reducible first|refine zf ?_ ?_|refine kb ?_ ?_)<;>intro h<;>try (exfalso;omega))|((with_reducible refine zi ?_ ?_);· omega)|refine qe rfl ?_|refine qb rfl ?_)|((with_reducible refine eI ?_);first|((with_reducible refine q5 ?_ ?_ ?_);(·rfl);· omega)|(refine qN rfl rfl ?_ ?_;(·first|omega|(simp only [List.length_cons,List.length_nil,List.length_map,List.length_append];omega)))|(refine qO rfl rfl ?_ ?_;(focus omega))|((with_reducible refine q9 ?_ ?_ ?_);(·rfl);· omega)|(refine qS rfl rfl ?_ ?_;(·first|omega|(simp only [List.length_cons,List.length_nil,List.length_map,List.length_append];omega)))|(refine qW rfl rfl ?_ ?_;(focus omega))|refine qe rfl ?_|refine qb rfl ?_)|((with_reducible refine eC ?_);first|((refine qk (jF s hs hp0) rfl rfl ?_ rfl ?_);(focus first|exact .inl rfl|exact .inr rfl|(refine .inr ?_;simp [qo,qm,qh,qg,SO.hasSl,List.all_map,qi,SV.cells,Function.comp_def];done))))|((with_reducible refine eA ?_);first|(refine kU rfl rfl rfl rfl rfl ?_ ?_;· first|decide|(simp only [List.length_append,List.length_cons,List.length_nil,List.length_map,List.length_take,List.length_drop];omega)))|((with_reducible refine eK ?_);first|(with_reducible first|refine qT ?_|refine qU ?_)|((with_reducible refine qr ?_ ?_)<;>intro h))|((with_reducible refine eO ?_);first|refine qe rfl ?_|(refine qB rfl ?_ ?_<;>intro h<;>try (exfalso;simp_all;done))|refine qb rfl ?_|(refine qF rfl ?_ rfl ?_;(focus omega))|(refine qt rfl ?_ rfl ?_ ?_;(focus omega);(all_goals intro h))|(refine zP rfl rfl rfl ?_ ?_ ?_;(·simp);(·first|omega|(simp only [List.length_cons,List.length_nil,List.length_map,List.length_append];omega));intro w))|((with_reducible refine eD ?_);first|refine qe rfl ?_|refine qb rfl ?_)|((with_reducible refine eH ?_);first|refine zA rfl ?_)|((with_reducible refine UJ67_7 ?_);(unfold qd1))|(with_reducible first|refine qez ?_|refine qir ?_)|((with_reducible refine ih ?_ _ _ _ ?_ ?_)<;>(first|omega|assumption|((first|(rw [wV (Ne.symm h),List.map_append,hL];rfl)|(rw [xr (by omega)];exact hL)))|(simp only [*,List.map_append,List.length_append,List.length_cons,List.length_nil,List.map_cons,List.map_nil];done)|(simp_all;done)|(simp_all;omega)))|refine qq rfl ?_)
  all_goals first
    | (obtain rfl : i = 6 := by omega
       unfold zY; rw [List.map_append, ← hL]; exact ⟨rfl, rfl⟩)
    | trace_state
theorem KJ (d : TDisk) (s : List TPkg) (hs : s.length ≤ 2000000) (hp0 : PL s) (hok : zo s = true) (hf : d.files.length = 6) : Ex (fun m => qd prg m 67 [qR d, .sl 4 (s.map zh)] []) (.sl 4 ((zY d s).map zc)) [] := by
  refine zz.1 ?_
  have hF := wI s hs hp0
  unfold kM at hF
  rw [if_pos hok] at hF
  have hw := kv s
  have hcast : (((zj s).length : Nat) : Int) = 6 := by rw [hw]; rfl
  (refine U67 (nl := 0) rfl ?_; unfold B67)
  repeat' (first|((with_reducible refine eL ?_);first|((with_reducible refine qI ?_ ?_);· rfl)|refine qy rfl rfl ?_|refine qG rfl rfl ?_|refine qz rfl rfl rfl ?_|refine qJ rfl rfl ?_|refine qH rfl rfl ?_|refine qK rfl ?_|refine qe rfl ?_|refine qb rfl ?_)|((with_reducible refine eC ?_);first|((refine qk (hF ..) rfl rfl ?_ rfl ?_);(focus first|exact .inl rfl|exact .inr rfl|(refine .inr ?_;simp [qo,qm,qh,qg,SO.hasSl,List.all_map,qi,SV.cells,Function.comp_def];done))))|((with_reducible refine eD ?_);first|refine qe rfl ?_|refine qb rfl ?_)|((with_reducible refine eH ?_);first|refine zA rfl ?_)|(with_reducible first|refine qez ?_|refine qir ?_)|( (rw [hcast];exact YK d s hs hp0 hf 0 (by omega) _ 0 _ rfl rfl))|refine qq rfl ?_)
structure StepsIn (l : List TStep) : Prop where
  len : l.length ≤ 2000000
  all : ∀ i, i < l.length → TLenS (nth l i) ∧ ((nth l i).kind ≠ 2 ∨ 0 ≤ (nth l i).path ∧ (nth l i).path ≤ 5)
theorem ZC (d : TDisk) (t : TStep) : (doP d t).files.length = d.files.length := by
  unfold doP; repeat' split
  all_goals first | rfl | (dsimp only; rw [List.length_set])
theorem ZD (d : TDisk) (t : TStep) : (kB d t).files.length = d.files.length := by
  unfold kB; repeat' split
  all_goals first | rfl | (dsimp only; rw [List.length_set])
def Qf (d : TDisk) (l : List TStep) (i : Nat) : TDisk := (l.take i).foldl doP d
theorem jH {d : TDisk} {l : List TStep} {i : Nat} (h : i < l.length) : Qf d l (i + 1) = doP (Qf d l i) (nth l i) := by
  unfold Qf; rw [jy h, List.foldl_append]; rfl
theorem wy (d : TDisk) (l : List TStep) (i : Nat) : (Qf d l i).files.length = d.files.length := by
  unfold Qf
  generalize l.take i = r
  induction r generalizing d with
  | nil => rfl
  | cons t r ih => rw [List.foldl_cons, ih, ZC]
def cutN (l : List TStep) (cut : Int) : Nat := min cut.toNat l.length
def toP (d : TDisk) (l : List TStep) (cut : Int) (torn : Bool) : TDisk :=
  if torn = true ∧ 0 ≤ cut ∧ cut ≤ l.length - 1 then kB (Qf d l (cutN l cut)) (nth l cut.toNat) else Qf d l (cutN l cut)
theorem qam (d : TDisk) (l : List TStep) (cut : Int) : toP d l cut false = Qf d l (cutN l cut) := by unfold toP; rw [if_neg (fun h => Bool.noConfusion h.1)]
theorem qfj {d : TDisk} {l : List TStep} {cut : Int} (h : 0 ≤ cut ∧ cut ≤ (l.length : Int) - 1) : toP d l cut true = kB (Qf d l (cutN l cut)) (nth l cut.toNat) := by unfold toP; rw [if_pos ⟨rfl, h⟩]
theorem ZE {d : TDisk} {l : List TStep} {cut : Int} {torn : Bool} (h : ¬ (0 ≤ cut ∧ cut ≤ (l.length : Int) - 1)) : toP d l cut torn = Qf d l (cutN l cut) := by unfold toP; rw [if_neg (fun h9 => h h9.2)]
theorem kd (d : TDisk) (l : List TStep) (cut : Int) (torn : Bool) : (toP d l cut torn).files.length = d.files.length := by
  unfold toP; split
  · rw [ZD, wy]
  · rw [wy]
theorem qfk (d : TDisk) (l : List TStep) (hl : StepsIn l) (cut : Int) (torn : Bool) (hf : d.files.length = 6) : ∀ i : Nat, i ≤ cutN l cut → ∀ (e : TDisk) (k : Int) (c : Nat), k = i → e = Qf d l i →
    Ev (fun n => qa6 (qd prg n) (n + 1) 1 (n + 1 - c) [.sl 4 (l.map zc), iI cut, bB torn, .ptr 1 0, .ptr 2 0, iI k] [.arr true 1 (e.files.map iI), QE 0 e, .box [.osl 3, .osl 4, bB false, .osl 5], .arr false 4 [], .arr false 1 [], .arr false 4 []]) (Is (jG 0 (toP d l cut torn)) [.arr true 1 ((toP d l cut torn).files.map iI)]) := by
  refine zC ?_
  intro i hi ih e k c hk he
  subst hk
  have hef : e.files.length = 6 := by rw [he, wy, hf]
  have hll := hl.len
  have hin : ∀ j, j < l.length → inD e (nth l j) := fun j hj => by
    have := (hl.all j hj).2
    unfold inD; omega
  have hlim : cutN l cut ≤ l.length ∧ (cutN l cut : Int) ≤ max cut 0 ∧ ((cutN l cut : Int) = l.length ∨ (cutN l cut : Int) ≥ cut) := by unfold cutN; omega
  have hat : ∀ z : Int, 0 ≤ z → z < l.length → ∃ j : Nat, z = j := fun z h0 _ => ⟨z.toNat, by omega⟩
  cases torn
  all_goals (refine UG44_2 _ ?_; unfold qdN)
  all_goals repeat' (first|((with_reducible refine eG ?_);first|(with_reducible first|refine qX ?_|refine qY ?_|refine qZ ?_|refine q4 ?_|refine zm ?_)|refine qe rfl ?_|refine qb rfl ?_|((with_reducible refine zn ?_ ?_)<;>intro h))|((with_reducible refine eB ?_);first|((with_reducible refine zf ?_ ?_)<;>intro h<;>try (exfalso;omega))|((with_reducible first|refine zi ?_ ?_|refine kG ?_ ?_);· omega)|refine qe rfl ?_|refine qb rfl ?_)|((with_reducible refine eL ?_);first|((with_reducible refine qI ?_ ?_);· rfl)|refine qy rfl rfl ?_|refine qG rfl rfl ?_|refine qz rfl rfl rfl ?_|refine qJ rfl rfl ?_|refine qH rfl rfl ?_|refine qK rfl ?_|refine qe rfl ?_|refine qb rfl ?_)|((with_reducible refine eI ?_);first|((with_reducible refine q5 ?_ ?_ ?_);(·rfl);· omega)|(refine qN rfl rfl ?_ ?_;(·first|omega|(simp only [List.length_cons,List.length_nil,List.length_map,List.length_append];omega)))|(refine qO rfl rfl ?_ ?_;(focus omega))|((with_reducible refine q9 ?_ ?_ ?_);(·rfl);· omega)|(refine qS rfl rfl ?_ ?_;(·first|omega|(simp only [List.length_cons,List.length_nil,List.length_map,List.length_append];omega)))|(refine qW rfl rfl ?_ ?_;(focus omega))|refine qe rfl ?_|refine qb rfl ?_)|((with_reducible refine eC ?_);first|((refine zw (KB ..) rfl rfl ?_ rfl rfl ?_ ?_);(focus first|exact .inl rfl|exact .inr rfl|(refine .inr ?_;simp [qo,qm,qh,qg,SO.hasSl,List.all_map,qi,SV.cells,Function.comp_def];done));(all_goals (intro h));(all_goals (try (exfalso;first|omega|exact h rfl|exact h ⟨rfl,rfl,rfl⟩))))|((refine qk (qfh e (nth l i) (hl.all i (by omega)).1 (hin i (by omega)) (by omega)) rfl rfl ?_ rfl ?_);(focus first|exact .inl rfl|exact .inr rfl|(refine .inr ?_;simp [qo,qm,qh,qg,SO.hasSl,List.all_map,qi,SV.cells,Function.comp_def];done)))|((refine qk (YI e (nth l cut.toNat) (hin _ (by omega)) (by omega)) rfl rfl ?_ rfl ?_);(focus first|exact .inl rfl|exact .inr rfl|(refine .inr ?_;simp [qo,qm,qh,qg,SO.hasSl,List.all_map,qi,SV.cells,Function.comp_def];done))))|((with_reducible refine eK ?_);first|(with_reducible first|refine qT ?_|refine qU ?_)|((with_reducible refine qr ?_ ?_)<;>intro h))|((with_reducible refine eO ?_);first|refine qe rfl ?_|(refine qB rfl ?_ ?_<;>intro h<;>try (exfalso;simp_all;done))|refine qb rfl ?_|(refine qF rfl ?_ rfl ?_;(focus omega))|(refine qt rfl ?_ rfl ?_ ?_;(focus omega);(all_goals intro h)))|((with_reducible refine eD ?_);first|refine qe rfl ?_|refine qb rfl ?_|((with_reducible refine qC ?_ ?_)<;>intro h))|((with_reducible refine eH ?_);first|refine zA rfl ?_)|((with_reducible refine UJ44_7 ?_);(unfold qdO))|(with_reducible first|refine qew ?_|refine qio ?_)|((with_reducible refine ih ?_ _ _ _ ?_ ?_)<;>(first|omega|assumption|((first|(rw [jH (by omega),he])|omega))|(simp only [*,List.map_append,List.length_append,List.length_cons,List.length_nil,List.map_cons,List.map_nil];done)|(simp_all;done)|(simp_all;omega)))|refine qq rfl ?_)
  all_goals first
    | (obtain rfl : i = cutN l cut := by omega
       subst he
       first
       | (rw [qam]; exact ⟨rfl, rfl⟩)
       | (rw [qfj (by assumption)]; exact ⟨rfl, rfl⟩)
       | (rw [ZE (by assumption)]; exact ⟨rfl, rfl⟩))
    | trace_state
theorem ZF (d : TDisk) (l : List TStep) (hl : StepsIn l) (cut : Int) (torn : Bool) (hf : d.files.length = 6) : Ex (fun m => qd prg m 44 [jG 0 d, .sl 4 (l.map zc), iI cut, bB torn] [.arr true 1 (d.files.map iI)]) (jG 0 (toP d l cut torn)) [.arr true 1 ((toP d l cut torn).files.map iI)] := by
  refine zz.1 ?_
  (refine U44 (nl := 1) rfl ?_; unfold B44)
  repeat' (first|((with_reducible refine eD ?_);first|refine qe rfl ?_|refine qb rfl ?_)|((with_reducible refine eH ?_);first|refine zA rfl ?_)|(with_reducible first|refine qew ?_|refine qio ?_)|( exact qfk d l hl cut torn hf 0 (by omega) _ 0 _ rfl rfl)|refine qq rfl ?_)
end Go.Proofs.Ytfjbclgbpdlkgaa
