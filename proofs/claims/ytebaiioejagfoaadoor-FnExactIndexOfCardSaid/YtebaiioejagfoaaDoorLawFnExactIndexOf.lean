/- The row of the law FnExactIndexOf: for all arguments that the row lets in, the law's function says yes. -/
import Derived.Test.YtebaiioejagfoaaDoorRows
import Derived.Test.YtebaiioejagfoaaDoorTie
import Derived.Test.YtebaiioejagfoaaDoorCards
import Derived.Test.YtebaiioejagfoaaDoorTg
import Derived.Test.YtebaiioejagfoaaDoorTm
import Derived.Test.YtebaiioejagfoaaDoorPFnExactIndexOf
import Derived.WalkKit
import Derived.ProofKit
import Derived.OpenShut
import Derived.ShutString
import Derived.ChangeOld
import Derived.Below
import Derived.SizedLaws
import Derived.LaidMore
import Derived.Stop.Joined
import Derived.SevenTiedAt
namespace Go.Proofs.YtebaiioejagfoaaDoor.fnExactIndexOf
open Go.ChangeShapes Go.WideShapes Go.ChangeAt Go.RowKit
open Go.ChangeMaps (open_string shut_string)
set_option linter.unusedVariables false
theorem o80 {H : Type} {enc : TypeId × Value → H} {w : World} {B : Nat → Prop} (hB : ∀ b, b < w.heap.size → B b) : COpen enc Tryd.prog w B (fun _ => true) true 80 (fun _ => True : TFile → Prop) (fun f => [iI f.path, iI f.data]) :=
  (copen_s2 (k0 := 1) (k1 := 1) Tryd.underlying80 (by kernel_rfl) rfl rfl (by kernel_rfl) (by kernel_rfl) (copen_int Tryd.underlying3) (copen_int Tryd.underlying3)).map _ _ (fun a => ⟨a.1, a.2⟩) (fun a => rfl) (fun a h => trivial)
theorem o37 {H : Type} {enc : TypeId × Value → H} {w : World} {B : Nat → Prop} (hB : ∀ b, b < w.heap.size → B b) : COpen enc Tryd.prog w B (fun _ => true) true 37 (fun l : List TFile => l.length ≤ maxLen ∧ ∀ a, a ∈ l → (fun _ => True : TFile → Prop) a) (fun l => [.sl 2 (l.map eFile)]) :=
  copen_slice (f := eFile) Tryd.underlying37 (by kernel_rfl) rfl (o80 hB) elem_agg hB
theorem o82 {H : Type} {enc : TypeId × Value → H} {w : World} {B : Nat → Prop} (hB : ∀ b, b < w.heap.size → B b) : COpen enc Tryd.prog w B (fun _ => true) true 82 (fun _ => True : TDep → Prop) (fun f => [iI f.name, iI f.least]) :=
  (copen_s2 (k0 := 1) (k1 := 1) Tryd.underlying82 (by kernel_rfl) rfl rfl (by kernel_rfl) (by kernel_rfl) (copen_int Tryd.underlying3) (copen_int Tryd.underlying3)).map _ _ (fun a => ⟨a.1, a.2⟩) (fun a => rfl) (fun a h => trivial)
theorem o38 {H : Type} {enc : TypeId × Value → H} {w : World} {B : Nat → Prop} (hB : ∀ b, b < w.heap.size → B b) : COpen enc Tryd.prog w B (fun _ => true) true 38 (fun l : List TDep => l.length ≤ maxLen ∧ ∀ a, a ∈ l → (fun _ => True : TDep → Prop) a) (fun l => [.sl 2 (l.map eDep)]) :=
  copen_slice (f := eDep) Tryd.underlying38 (by kernel_rfl) rfl (o82 hB) elem_agg hB
theorem o40 {H : Type} {enc : TypeId × Value → H} {w : World} {B : Nat → Prop} (hB : ∀ b, b < w.heap.size → B b) : COpen enc Tryd.prog w B (fun _ => true) true 40 (okPkg : TPkg → Prop) (fun p => [iI p.name, iI p.ver, .sl 2 (p.files.map eFile), .sl 2 (p.deps.map eDep)]) :=
  (copen_s4 (k0 := 1) (k1 := 1) (k2 := 1) (k3 := 1) Tryd.underlying40 (by kernel_rfl) rfl rfl rfl rfl (by kernel_rfl) (by kernel_rfl) (by kernel_rfl) (by kernel_rfl) (copen_int Tryd.underlying3) (copen_int Tryd.underlying3) (o37 hB) (o38 hB)).map _ _ (fun a => ⟨a.1, a.2.1, a.2.2.1, a.2.2.2⟩) (fun a => rfl) (fun a h => ⟨h.2.2.1.1, h.2.2.2.1⟩)
theorem o22 {H : Type} {enc : TypeId × Value → H} {w : World} {B : Nat → Prop} (hB : ∀ b, b < w.heap.size → B b) : COpen enc Tryd.prog w B (fun _ => true) true 22 (fun l : List TPkg => l.length ≤ maxLen ∧ ∀ a, a ∈ l → (okPkg : TPkg → Prop) a) (fun l => [.sl 4 (l.map ePkg)]) :=
  copen_slice (f := ePkg) Tryd.underlying22 (by kernel_rfl) rfl (o40 hB) elem_agg hB
theorem own : ownKnob Tryd.prog.godebug = none := by kernel_rfl
theorem laidOut : laidOutB Tryd.prog = true := by kernel_rfl
set_option maxRecDepth 100000
abbrev laidL := Rows.fnExactIndexOfRow.laid
theorem door_met (os : Os) (args : Array Value) : laidMetH Tryd.prog laidL ((World.doorLaid Tryd.prog 24 os).forCall (fun _ _ => 0) ⟨#[], args, []⟩).memory :=
  laidMetH_of_parts3 (fuel := 8) (laidMet_of_run' 8 (by kernel_rfl) (by kernel_rfl)) (by kernel_rfl) (by kernel_rfl)
theorem lifted (os : Os) (started : os.Started) (H : Type) (enc : TypeId × Value → H) :
    ReturnsInHanded {} Tryd.checked os 3 .any (fun w args => (Rows.fnExactIndexOfSpec.pre enc Tryd.prog Tryd.f3 [] false w args ∧ laidMetH Tryd.prog laidL w) ∧ sizedMet enc Tryd.prog Tryd.f3 (OpenSpec.ofChange Rows.fnExactIndexOfSpec) false w args) (Rows.fnExactIndexOfSpec.post enc Tryd.prog Tryd.f3 false true false false) := by
  refine returnsInHanded_of_change_and (C := Tryd.checked) (X := fun w _ => laidMetH Tryd.prog laidL w) (fun _ _ _ hh h => h.of_heap hh) own started (by kernel_rfl) Tryd.func3
    (ChangeSpec.witness_shaped (enc := enc) (C := Tryd.checked) (os := os) (X := fun w _ => laidMetH Tryd.prog laidL w) false (World.doorLaid Tryd.prog 24 os) #[.int .i64 0, .int .i64 0, .slice none 0 0] 8 rfl (World.shaped_of_RefB (by kernel_rfl) (by kernel_rfl)) (by kernel_rfl) (by kernel_rfl) (by kernel_rfl) (door_met os _)) ?_
  intro W base args ds gs before hval0 hW hcnd hsz0 hL _
  have hval : ∀ (j : Nat) t v, Tryd.f3.params[j]? = some t → args[j]? = some v → Value.okWide Tryd.prog W .any base t v := hval0
  have hW' := hW
  obtain ⟨p, q, hA0, hV, rfl, hfz, hnd⟩ := hW
  have hA : DataW.TrodAll enc Tryd.prog W 0 (fun _ => true) true Tryd.f3.params.toList args.toList ds p := hA0
  rw [Tryd.params3] at hA hval
  obtain ⟨v0, vs0, d0, ds0, p0, q0, hargs, rfl, rfl, h0, r0⟩ := trodAll_cons hA
  obtain ⟨v1, vs1, d1, ds1, p1, q1, rfl, rfl, rfl, h1, r1⟩ := trodAll_cons r0
  obtain ⟨v2, vs2, d2, ds2, p2, q2, rfl, rfl, rfl, h2, r2⟩ := trodAll_cons r1
  obtain ⟨rfl, rfl, rfl⟩ := trodAll_nil r2
  obtain rfl : args = #[v0, v1, v2] := by cases args; simp_all
  obtain ⟨rfl, rfl⟩ := trodVars_none hV
  have hB := B0_all (w := W)
  obtain ⟨z0, rfl, -⟩ := open_int Tryd.underlying3 (hval 0 3 v0 rfl rfl) h0
  obtain ⟨z1, rfl, -⟩ := open_int Tryd.underlying3 (hval 1 3 v1 rfl rfl) h1
  obtain ⟨a2, len2, cap2, rfl⟩ := okWide_slice Tryd.underlying22 (hval 2 22 v2 rfl rfl)
  have k0 := h0
  have lt0 : ∀ x ∈ p0, x.block < W.heap.size := by obtain ⟨m, hm⟩ := k0; exact DataW.trod_lt m _ _ _ hm
  obtain ⟨x0, ok0, rp0⟩ := arg_one (copen_int Tryd.underlying3) h0 rfl
  have k1 := h1
  have lt1 : ∀ x ∈ p1, x.block < W.heap.size := by obtain ⟨m, hm⟩ := k1; exact DataW.trod_lt m _ _ _ hm
  obtain ⟨x1, ok1, rp1⟩ := arg_one (copen_int Tryd.underlying3) h1 rfl
  have k2 := h2
  have lt2 : ∀ x ∈ p2, x.block < W.heap.size := by obtain ⟨m, hm⟩ := k2; exact DataW.trod_lt m _ _ _ hm
  obtain ⟨x2, ok2, rp2⟩ := arg_one (o22 hB) h2 rfl
  try clear hA0 hval0 hsz0
  obtain ⟨nn, los, hn⟩ := pureFnExactIndexOf x0 ok0 x1 ok1 x2 ok2
  refine (law_args prgR2 (RepL.cons rp0 (RepL.cons rp1 (RepL.cons rp2 RepL.nil))) hn).mono fun e W' ⟨he, bel⟩ => ?_
  subst he
  exact ⟨_, rfl, _, _, _, [], _, [], hW', trodAll_mk1 (shut_bool Tryd.underlying4 _), (trodAll_cons_mk (Below.trod laidOut (by kernel_rfl) (of_decide_eq_true (by kernel_rfl)) k0 bel lt0) (trodAll_cons_mk (Below.trod laidOut (by kernel_rfl) (of_decide_eq_true (by kernel_rfl)) k1 bel lt1) (trodAll_cons_mk (Below.trod laidOut (by kernel_rfl) (of_decide_eq_true (by kernel_rfl)) k2 bel lt2) trodAll_mk0))), rfl, bel.frame _, fun h => by cases h⟩
theorem over : Rows.fnExactIndexOfRow.holds Tryd.pinned (OpenSpec.ofChange Rows.fnExactIndexOfSpec) :=
  OpenClaim.holds_of_wide 3 Tryd.f3 rfl rfl rfl rfl rfl rfl rfl ⟨rfl, rfl, rfl, rfl, rfl⟩ rfl rfl rfl rfl rfl (by kernel_rfl) Tryd.func3 (by kernel_rfl)
    (of_decide_eq_true (by kernel_rfl)) (by unfold Func.isWrapper; first | (rw [if_pos (by decide +kernel)]; kernel_rfl) | (rw [if_neg (by decide +kernel)]; exact ⟨rfl, rfl⟩))
    (fun os started H enc _ => lifted os started H enc)
theorem proved : Rows.FnExactIndexOfSaid := over
end Go.Proofs.YtebaiioejagfoaaDoor.fnExactIndexOf
namespace Go.Proofs.YtebaiioejagfoaaDoor
open Go in
theorem fnExactIndexOf_holds : Rows.FnExactIndexOfCardSaid :=
  Claim7.holds_tied_plain_at .later [] [.data, .data, .data] true Rows.fnExactIndexOfCard.stood.harness false
    fnExactIndexOf.proved (fun _ h => by cases h) (by kernel_rfl) (fun _ h => by cases h) fnExactIndexOf_row_tie rfl ⟨rfl, rfl⟩ (by kernel_rfl) rfl
    (fun f fn hf hfn => by
      obtain rfl : f = 3 := Option.some.inj ((show Tryd.prog.funcNamed Rows.fnExactIndexOfRow.func = some 3 by kernel_rfl).symm.trans hf) |>.symm
      obtain rfl : fn = Tryd.f3 := (Option.some.inj (Tryd.func3.symm.trans hfn)).symm
      exact ⟨by kernel_rfl, fun j t ht => by
        rw [Tryd.params3] at ht
        have hm : t ∈ [3, 3, 22] := by simpa using Array.mem_of_getElem? ht
        have hall : ([3, 3, 22].all fun u => !Tryd.prog.wantsStandIn u) = true := by kernel_rfl
        exact (show Tryd.prog.wantsStandIn t = false by simpa using List.all_eq_true.1 hall t hm)⟩)
    (by kernel_rfl)
end Go.Proofs.YtebaiioejagfoaaDoor
