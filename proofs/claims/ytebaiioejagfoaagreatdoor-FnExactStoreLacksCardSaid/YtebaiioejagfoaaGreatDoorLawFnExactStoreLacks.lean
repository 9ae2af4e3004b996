/- The row of the law FnExactStoreLacks: for all arguments that the row lets in, the law's function says yes. -/
import Derived.Test.YtebaiioejagfoaaGreatDoorRows
import Derived.Test.YtebaiioejagfoaaGreatDoorTie
import Derived.Test.YtebaiioejagfoaaGreatDoorCards
import Derived.Test.YtebaiioejagfoaaGreatDoorTg
import Derived.Test.YtebaiioejagfoaaGreatDoorTa
import Derived.Test.YtebaiioejagfoaaGreatDoorPFnExactStoreLacks
import Derived.WalkKit
import Derived.ProofKit
import Derived.OpenShut
import Derived.ShutString
import Derived.ChangeOld
import Derived.Below
import Derived.SizedLaws
import Derived.LaidMore
import Derived.Stop.Joined
import Derived.SevenTiedAt
namespace Go.Proofs.YtebaiioejagfoaaGreatDoor.fnExactStoreLacks
open Go.ChangeShapes Go.WideShapes Go.ChangeAt Go.RowKit
open Go.ChangeMaps (open_string shut_string)
set_option linter.unusedVariables false
theorem o43 {H : Type} {enc : TypeId × Value → H} {w : World} {B : Nat → Prop} (hB : ∀ b, b < w.heap.size → B b) : COpen enc Tryz.prog w B (fun _ => true) true 43 (fun l : List Int => l.length ≤ maxLen ∧ ∀ a, a ∈ l → True) (fun l => [.sl 1 (l.map iI)]) :=
  copen_slice (f := iI) Tryz.underlying43 (by kernel_rfl) rfl (copen_int Tryz.underlying3) elem_int hB
theorem o45 {H : Type} {enc : TypeId × Value → H} {w : World} {B : Nat → Prop} (hB : ∀ b, b < w.heap.size → B b) : COpen enc Tryz.prog w B (fun _ => true) true 45 (okRoot : TRoot → Prop) (fun r => [iI r.num, .sl 1 (r.keys.map iI), iI r.need]) :=
  (copen_s3 (k0 := 1) (k1 := 1) (k2 := 1) Tryz.underlying45 (by kernel_rfl) rfl rfl rfl (by kernel_rfl) (by kernel_rfl) (by kernel_rfl) (copen_int Tryz.underlying3) (o43 hB) (copen_int Tryz.underlying3)).map _ _ (fun a => ⟨a.1, a.2.1, a.2.2⟩) (fun a => rfl) (fun a h => h.2.1.1)
theorem o153 {H : Type} {enc : TypeId × Value → H} {w : World} {B : Nat → Prop} (hB : ∀ b, b < w.heap.size → B b) : COpen enc Tryz.prog w B (fun _ => true) true 153 (fun _ => True : TMeta → Prop) (fun f => [iI f.name, iI f.ver, iI f.sum]) :=
  (copen_s3 (k0 := 1) (k1 := 1) (k2 := 1) Tryz.underlying153 (by kernel_rfl) rfl rfl rfl (by kernel_rfl) (by kernel_rfl) (by kernel_rfl) (copen_int Tryz.underlying3) (copen_int Tryz.underlying3) (copen_int Tryz.underlying3)).map _ _ (fun a => ⟨a.1, a.2.1, a.2.2⟩) (fun a => rfl) (fun a h => trivial)
theorem o46 {H : Type} {enc : TypeId × Value → H} {w : World} {B : Nat → Prop} (hB : ∀ b, b < w.heap.size → B b) : COpen enc Tryz.prog w B (fun _ => true) true 46 (fun l : List TMeta => l.length ≤ maxLen ∧ ∀ a, a ∈ l → (fun _ => True : TMeta → Prop) a) (fun l => [.sl 3 (l.map eMeta)]) :=
  copen_slice (f := eMeta) Tryz.underlying46 (by kernel_rfl) rfl (o153 hB) elem_agg hB
theorem o48 {H : Type} {enc : TypeId × Value → H} {w : World} {B : Nat → Prop} (hB : ∀ b, b < w.heap.size → B b) : COpen enc Tryz.prog w B (fun _ => true) true 48 (okIndex : TIndex → Prop) (fun x => [iI x.num, iI x.til, .sl 3 (x.metas.map eMeta)]) :=
  (copen_s3 (k0 := 1) (k1 := 1) (k2 := 1) Tryz.underlying48 (by kernel_rfl) rfl rfl rfl (by kernel_rfl) (by kernel_rfl) (by kernel_rfl) (copen_int Tryz.underlying3) (copen_int Tryz.underlying3) (o46 hB)).map _ _ (fun a => ⟨a.1, a.2.1, a.2.2⟩) (fun a => rfl) (fun a h => h.2.2.1)
theorem o50 {H : Type} {enc : TypeId × Value → H} {w : World} {B : Nat → Prop} (hB : ∀ b, b < w.heap.size → B b) : COpen enc Tryz.prog w B (fun _ => true) true 50 (okTrust : TTrust → Prop) (fun t => [iI t.root.num, .sl 1 (t.root.keys.map iI), iI t.root.need, bB t.has, iI t.index.num, iI t.index.til, .sl 3 (t.index.metas.map eMeta)]) :=
  (copen_s3 (k0 := 3) (k1 := 1) (k2 := 3) Tryz.underlying50 (by kernel_rfl) rfl rfl rfl (by kernel_rfl) (by kernel_rfl) (by kernel_rfl) (o45 hB) (copen_bool Tryz.underlying4) (o48 hB)).map _ _ (fun a => ⟨a.1, a.2.1, a.2.2⟩) (fun a => rfl) (fun a h => ⟨h.1, h.2.2⟩)
theorem o155 {H : Type} {enc : TypeId × Value → H} {w : World} {B : Nat → Prop} (hB : ∀ b, b < w.heap.size → B b) : COpen enc Tryz.prog w B (fun _ => true) true 155 (fun _ => True : TFile → Prop) (fun f => [iI f.path, iI f.data]) :=
  (copen_s2 (k0 := 1) (k1 := 1) Tryz.underlying155 (by kernel_rfl) rfl rfl (by kernel_rfl) (by kernel_rfl) (copen_int Tryz.underlying3) (copen_int Tryz.underlying3)).map _ _ (fun a => ⟨a.1, a.2⟩) (fun a => rfl) (fun a h => trivial)
theorem o98 {H : Type} {enc : TypeId × Value → H} {w : World} {B : Nat → Prop} (hB : ∀ b, b < w.heap.size → B b) : COpen enc Tryz.prog w B (fun _ => true) true 98 (fun l : List TFile => l.length ≤ maxLen ∧ ∀ a, a ∈ l → (fun _ => True : TFile → Prop) a) (fun l => [.sl 2 (l.map eFile)]) :=
  copen_slice (f := eFile) Tryz.underlying98 (by kernel_rfl) rfl (o155 hB) elem_agg hB
theorem o157 {H : Type} {enc : TypeId × Value → H} {w : World} {B : Nat → Prop} (hB : ∀ b, b < w.heap.size → B b) : COpen enc Tryz.prog w B (fun _ => true) true 157 (fun _ => True : TDep → Prop) (fun f => [iI f.name, iI f.least]) :=
  (copen_s2 (k0 := 1) (k1 := 1) Tryz.underlying157 (by kernel_rfl) rfl rfl (by kernel_rfl) (by kernel_rfl) (copen_int Tryz.underlying3) (copen_int Tryz.underlying3)).map _ _ (fun a => ⟨a.1, a.2⟩) (fun a => rfl) (fun a h => trivial)
theorem o99 {H : Type} {enc : TypeId × Value → H} {w : World} {B : Nat → Prop} (hB : ∀ b, b < w.heap.size → B b) : COpen enc Tryz.prog w B (fun _ => true) true 99 (fun l : List TDep => l.length ≤ maxLen ∧ ∀ a, a ∈ l → (fun _ => True : TDep → Prop) a) (fun l => [.sl 2 (l.map eDep)]) :=
  copen_slice (f := eDep) Tryz.underlying99 (by kernel_rfl) rfl (o157 hB) elem_agg hB
theorem o101 {H : Type} {enc : TypeId × Value → H} {w : World} {B : Nat → Prop} (hB : ∀ b, b < w.heap.size → B b) : COpen enc Tryz.prog w B (fun _ => true) true 101 (okPkg : TPkg → Prop) (fun p => [iI p.name, iI p.ver, .sl 2 (p.files.map eFile), .sl 2 (p.deps.map eDep)]) :=
  (copen_s4 (k0 := 1) (k1 := 1) (k2 := 1) (k3 := 1) Tryz.underlying101 (by kernel_rfl) rfl rfl rfl rfl (by kernel_rfl) (by kernel_rfl) (by kernel_rfl) (by kernel_rfl) (copen_int Tryz.underlying3) (copen_int Tryz.underlying3) (o98 hB) (o99 hB)).map _ _ (fun a => ⟨a.1, a.2.1, a.2.2.1, a.2.2.2⟩) (fun a => rfl) (fun a h => ⟨h.2.2.1.1, h.2.2.2.1⟩)
theorem o51 {H : Type} {enc : TypeId × Value → H} {w : World} {B : Nat → Prop} (hB : ∀ b, b < w.heap.size → B b) : COpen enc Tryz.prog w B (fun _ => true) true 51 (fun l : List TPkg => l.length ≤ maxLen ∧ ∀ a, a ∈ l → (okPkg : TPkg → Prop) a) (fun l => [.sl 4 (l.map ePkg)]) :=
  copen_slice (f := ePkg) Tryz.underlying51 (by kernel_rfl) rfl (o101 hB) elem_agg hB
theorem own : ownKnob Tryz.prog.godebug = none := by kernel_rfl
theorem laidOut : laidOutB Tryz.prog = true := by kernel_rfl
set_option maxRecDepth 100000
abbrev laidL := Rows.fnExactStoreLacksRow.laid
theorem door_met (os : Os) (args : Array Value) : laidMetH Tryz.prog laidL ((World.doorLaid Tryz.prog 72 os).forCall (fun _ _ => 0) ⟨#[], args, []⟩).memory :=
  laidMetH_of_parts3 (fuel := 8) (laidMet_of_run' 8 (by kernel_rfl) (by kernel_rfl)) (by kernel_rfl) (by kernel_rfl)
theorem lifted (os : Os) (started : os.Started) (H : Type) (enc : TypeId × Value → H) :
    ReturnsInHanded {} Tryz.checked os 5 .any (fun w args => (Rows.fnExactStoreLacksSpec.pre enc Tryz.prog Tryz.f5 [] false w args ∧ laidMetH Tryz.prog laidL w) ∧ sizedMet enc Tryz.prog Tryz.f5 (OpenSpec.ofChange Rows.fnExactStoreLacksSpec) false w args) (Rows.fnExactStoreLacksSpec.post enc Tryz.prog Tryz.f5 false true false false) := by
  refine returnsInHanded_of_change_and (C := Tryz.checked) (X := fun w _ => laidMetH Tryz.prog laidL w) (fun _ _ _ hh h => h.of_heap hh) own started (by kernel_rfl) Tryz.func5
    (ChangeSpec.witness_shaped (enc := enc) (C := Tryz.checked) (os := os) (X := fun w _ => laidMetH Tryz.prog laidL w) false (World.doorLaid Tryz.prog 72 os) #[(.agg #[.int .i64 0, .slice none 0 0, .int .i64 0, .bool false, .int .i64 0, .int .i64 0, .slice none 0 0]), .slice none 0 0] 8 rfl (World.shaped_of_RefB (by kernel_rfl) (by kernel_rfl)) (by kernel_rfl) (by kernel_rfl) (by kernel_rfl) (door_met os _)) ?_
  intro W base args ds gs before hval0 hW hcnd hsz0 hL _
  have hval : ∀ (j : Nat) t v, Tryz.f5.params[j]? = some t → args[j]? = some v → Value.okWide Tryz.prog W .any base t v := hval0
  have hW' := hW
  obtain ⟨p, q, hA0, hV, rfl, hfz, hnd⟩ := hW
  have hA : DataW.TrodAll enc Tryz.prog W 0 (fun _ => true) true Tryz.f5.params.toList args.toList ds p := hA0
  rw [Tryz.params5] at hA hval
  obtain ⟨v0, vs0, d0, ds0, p0, q0, hargs, rfl, rfl, h0, r0⟩ := trodAll_cons hA
  obtain ⟨v1, vs1, d1, ds1, p1, q1, rfl, rfl, rfl, h1, r1⟩ := trodAll_cons r0
  obtain ⟨rfl, rfl, rfl⟩ := trodAll_nil r1
  obtain rfl : args = #[v0, v1] := by cases args; simp_all
  obtain ⟨rfl, rfl⟩ := trodVars_none hV
  have hB := B0_all (w := W)
  obtain ⟨c0, rfl, -⟩ := okWide_struct Tryz.underlying50 (hval 0 50 v0 rfl rfl)
  obtain ⟨a1, len1, cap1, rfl⟩ := okWide_slice Tryz.underlying51 (hval 1 51 v1 rfl rfl)
  have k0 := h0
  have lt0 : ∀ x ∈ p0, x.block < W.heap.size := by obtain ⟨m, hm⟩ := k0; exact DataW.trod_lt m _ _ _ hm
  obtain ⟨x0, ok0, rp0⟩ := arg_agg (o50 hB) h0
  have k1 := h1
  have lt1 : ∀ x ∈ p1, x.block < W.heap.size := by obtain ⟨m, hm⟩ := k1; exact DataW.trod_lt m _ _ _ hm
  obtain ⟨x1, ok1, rp1⟩ := arg_one (o51 hB) h1 rfl
  try clear hA0 hval0 hsz0
  obtain ⟨nn, los, hn⟩ := pureFnExactStoreLacks x0 ok0 x1 ok1
  refine (law_args prgR2 (RepL.cons rp0 (RepL.cons rp1 RepL.nil)) hn).mono fun e W' ⟨he, bel⟩ => ?_
  subst he
  exact ⟨_, rfl, _, _, _, [], _, [], hW', trodAll_mk1 (shut_bool Tryz.underlying4 _), (trodAll_cons_mk (Below.trod laidOut (by kernel_rfl) (of_decide_eq_true (by kernel_rfl)) k0 bel lt0) (trodAll_cons_mk (Below.trod laidOut (by kernel_rfl) (of_decide_eq_true (by kernel_rfl)) k1 bel lt1) trodAll_mk0)), rfl, bel.frame _, fun h => by cases h⟩
theorem over : Rows.fnExactStoreLacksRow.holds Tryz.pinned (OpenSpec.ofChange Rows.fnExactStoreLacksSpec) :=
  OpenClaim.holds_of_wide 5 Tryz.f5 rfl rfl rfl rfl rfl rfl rfl ⟨rfl, rfl, rfl, rfl, rfl⟩ rfl rfl rfl rfl rfl (by kernel_rfl) Tryz.func5 (by kernel_rfl)
    (of_decide_eq_true (by kernel_rfl)) (by unfold Func.isWrapper; first | (rw [if_pos (by decide +kernel)]; kernel_rfl) | (rw [if_neg (by decide +kernel)]; exact ⟨rfl, rfl⟩))
    (fun os started H enc _ => lifted os started H enc)
theorem proved : Rows.FnExactStoreLacksSaid := over
end Go.Proofs.YtebaiioejagfoaaGreatDoor.fnExactStoreLacks
namespace Go.Proofs.YtebaiioejagfoaaGreatDoor
open Go in
theorem fnExactStoreLacks_holds : Rows.FnExactStoreLacksCardSaid :=
  Claim7.holds_tied_plain_at .later [] [.data, .data, .data] true Rows.fnExactStoreLacksCard.stood.harness true
    fnExactStoreLacks.proved (fun _ h => by cases h) (by kernel_rfl) (fun _ h => by cases h) fnExactStoreLacks_row_tie rfl ⟨rfl, rfl⟩ (by kernel_rfl) rfl
    (fun f fn hf hfn => by
      obtain rfl : f = 5 := Option.some.inj ((show Tryz.prog.funcNamed Rows.fnExactStoreLacksRow.func = some 5 by kernel_rfl).symm.trans hf) |>.symm
      obtain rfl : fn = Tryz.f5 := (Option.some.inj (Tryz.func5.symm.trans hfn)).symm
      exact ⟨by kernel_rfl, fun j t ht => by
        rw [Tryz.params5] at ht
        have hm : t ∈ [50, 51] := by simpa using Array.mem_of_getElem? ht
        have hall : ([50, 51].all fun u => !Tryz.prog.wantsStandIn u) = true := by kernel_rfl
        exact (show Tryz.prog.wantsStandIn t = false by simpa using List.all_eq_true.1 hall t hm)⟩)
    (by kernel_rfl)
end Go.Proofs.YtebaiioejagfoaaGreatDoor
