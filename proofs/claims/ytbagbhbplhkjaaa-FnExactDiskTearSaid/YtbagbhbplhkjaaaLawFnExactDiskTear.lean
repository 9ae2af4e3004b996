/- The row of the law FnExactDiskTear: for all arguments that the row lets in, the law's function says yes. -/
import Derived.Test.YtbagbhbplhkjaaaRows
import Derived.Test.YtbagbhbplhkjaaaTg
import Derived.Test.YtbagbhbplhkjaaaV7
import Derived.Test.YtbagbhbplhkjaaaPFnExactDiskTear
import Derived.WalkKit
import Derived.ProofKit
import Derived.OpenShut
import Derived.ShutString
import Derived.ChangeOld
import Derived.Below
import Derived.SizedLaws
namespace Go.Proofs.Ytbagbhbplhkjaaa.fnExactDiskTear
open Go.ChangeShapes Go.WideShapes Go.ChangeAt Go.RowKit
open Go.ChangeMaps (open_string shut_string)
set_option linter.unusedVariables false
theorem o98 {H : Type} {enc : TypeId × Value → H} {w : World} {B : Nat → Prop} (hB : ∀ b, b < w.heap.size → B b) : COpen enc Try.prog w B (fun _ => true) true 98 (fun _ => True : TFile → Prop) (fun f => [iI f.path, iI f.data]) :=
  (copen_s2 (k0 := 1) (k1 := 1) Try.underlying98 (by kernel_rfl) rfl rfl (by kernel_rfl) (by kernel_rfl) (copen_int Try.underlying3) (copen_int Try.underlying3)).map _ _ (fun a => ⟨a.1, a.2⟩) (fun a => rfl) (fun a h => trivial)
theorem o59 {H : Type} {enc : TypeId × Value → H} {w : World} {B : Nat → Prop} (hB : ∀ b, b < w.heap.size → B b) : COpen enc Try.prog w B (fun _ => true) true 59 (fun l : List TFile => l.length ≤ maxLen ∧ ∀ a, a ∈ l → (fun _ => True : TFile → Prop) a) (fun l => [.sl 2 (l.map eFile)]) :=
  copen_slice (f := eFile) Try.underlying59 (by kernel_rfl) rfl (o98 hB) elem_agg hB
theorem o100 {H : Type} {enc : TypeId × Value → H} {w : World} {B : Nat → Prop} (hB : ∀ b, b < w.heap.size → B b) : COpen enc Try.prog w B (fun _ => true) true 100 (fun _ => True : TDep → Prop) (fun f => [iI f.name, iI f.least]) :=
  (copen_s2 (k0 := 1) (k1 := 1) Try.underlying100 (by kernel_rfl) rfl rfl (by kernel_rfl) (by kernel_rfl) (copen_int Try.underlying3) (copen_int Try.underlying3)).map _ _ (fun a => ⟨a.1, a.2⟩) (fun a => rfl) (fun a h => trivial)
theorem o60 {H : Type} {enc : TypeId × Value → H} {w : World} {B : Nat → Prop} (hB : ∀ b, b < w.heap.size → B b) : COpen enc Try.prog w B (fun _ => true) true 60 (fun l : List TDep => l.length ≤ maxLen ∧ ∀ a, a ∈ l → (fun _ => True : TDep → Prop) a) (fun l => [.sl 2 (l.map eDep)]) :=
  copen_slice (f := eDep) Try.underlying60 (by kernel_rfl) rfl (o100 hB) elem_agg hB
theorem o62 {H : Type} {enc : TypeId × Value → H} {w : World} {B : Nat → Prop} (hB : ∀ b, b < w.heap.size → B b) : COpen enc Try.prog w B (fun _ => true) true 62 (okPkg : TPkg → Prop) (fun p => [iI p.name, iI p.ver, .sl 2 (p.files.map eFile), .sl 2 (p.deps.map eDep)]) :=
  (copen_s4 (k0 := 1) (k1 := 1) (k2 := 1) (k3 := 1) Try.underlying62 (by kernel_rfl) rfl rfl rfl rfl (by kernel_rfl) (by kernel_rfl) (by kernel_rfl) (by kernel_rfl) (copen_int Try.underlying3) (copen_int Try.underlying3) (o59 hB) (o60 hB)).map _ _ (fun a => ⟨a.1, a.2.1, a.2.2.1, a.2.2.2⟩) (fun a => rfl) (fun a h => ⟨h.2.2.1.1, h.2.2.2.1⟩)
theorem o22 {H : Type} {enc : TypeId × Value → H} {w : World} {B : Nat → Prop} (hB : ∀ b, b < w.heap.size → B b) : COpen enc Try.prog w B (fun _ => true) true 22 (fun l : List TPkg => l.length ≤ maxLen ∧ ∀ a, a ∈ l → (okPkg : TPkg → Prop) a) (fun l => [.sl 4 (l.map ePkg)]) :=
  copen_slice (f := ePkg) Try.underlying22 (by kernel_rfl) rfl (o62 hB) elem_agg hB
theorem o23 {H : Type} {enc : TypeId × Value → H} {w : World} {B : Nat → Prop} (hB : ∀ b, b < w.heap.size → B b) : COpen enc Try.prog w B (fun _ => true) true 23 (fun l : List Int => l.length ≤ maxLen ∧ ∀ a, a ∈ l → True) (fun l => [.sl 1 (l.map iI)]) :=
  copen_slice (f := iI) Try.underlying23 (by kernel_rfl) rfl (copen_int Try.underlying3) elem_int hB
theorem o25 {H : Type} {enc : TypeId × Value → H} {w : World} {B : Nat → Prop} (hB : ∀ b, b < w.heap.size → B b) : COpen enc Try.prog w B (fun _ => true) true 25 (okDisk : TDisk → Prop) (fun d => [.sl 4 (d.db.map ePkg), .sl 1 (d.files.map iI), bB d.has, .sl 4 (d.jour.map ePkg)]) :=
  (copen_s4 (k0 := 1) (k1 := 1) (k2 := 1) (k3 := 1) Try.underlying25 (by kernel_rfl) rfl rfl rfl rfl (by kernel_rfl) (by kernel_rfl) (by kernel_rfl) (by kernel_rfl) (o22 hB) (o23 hB) (copen_bool Try.underlying4) (o22 hB)).map _ _ (fun a => ⟨a.1, a.2.1, a.2.2.1, a.2.2.2⟩) (fun a => rfl) (fun a h => ⟨⟨h.1.1, h.1.2⟩, h.2.1.1, ⟨h.2.2.2.1, h.2.2.2.2⟩⟩)
theorem o27 {H : Type} {enc : TypeId × Value → H} {w : World} {B : Nat → Prop} (hB : ∀ b, b < w.heap.size → B b) : COpen enc Try.prog w B (fun _ => true) true 27 (okStep : TStep → Prop) (fun s => [iI s.kind, iI s.path, iI s.data, .sl 4 (s.pkgs.map ePkg)]) :=
  (copen_s4 (k0 := 1) (k1 := 1) (k2 := 1) (k3 := 1) Try.underlying27 (by kernel_rfl) rfl rfl rfl rfl (by kernel_rfl) (by kernel_rfl) (by kernel_rfl) (by kernel_rfl) (copen_int Try.underlying3) (copen_int Try.underlying3) (copen_int Try.underlying3) (o22 hB)).map _ _ (fun a => ⟨a.1, a.2.1, a.2.2.1, a.2.2.2⟩) (fun a => rfl) (fun a h => ⟨h.2.2.2.1, h.2.2.2.2⟩)
theorem own : ownKnob Try.prog.godebug = none := by kernel_rfl
theorem laidOut : laidOutB Try.prog = true := by kernel_rfl
set_option maxRecDepth 100000 in
theorem lifted (os : Os) (started : os.Started) (H : Type) (enc : TypeId × Value → H) :
    ReturnsInHanded {} Try.checked os 3 .any (Rows.fnExactDiskTearSpec.pre6 enc Try.prog Try.f3 Rows.fnExactDiskTearRow.domain false) (Rows.fnExactDiskTearSpec.post enc Try.prog Try.f3 false true false false) := by
  refine returnsInHanded_of_change_sized (C := Try.checked) own started (by kernel_rfl) Try.func3
    (ChangeSpec.witness6 (enc := enc) (C := Try.checked) false ⟨#[], #[(.agg #[.slice none 0 0, .slice none 0 0, .bool false, .slice none 0 0]), (.agg #[.int .i64 0, .int .i64 0, .int .i64 0, .slice none 0 0])], []⟩ 8 (by kernel_rfl) (by kernel_rfl) (by kernel_rfl) (by kernel_rfl)) ?_
  intro W base args ds gs before hval0 hW hcnd hsz0 _
  have hval : ∀ (j : Nat) t v, Try.f3.params[j]? = some t → args[j]? = some v → Value.okWide Try.prog W .any base t v := hval0
  have hW' := hW
  obtain ⟨p, q, hA0, hV, rfl, hfz, hnd⟩ := hW
  have hA : DataW.TrodAll enc Try.prog W 0 (fun _ => true) true Try.f3.params.toList args.toList ds p := hA0
  rw [Try.params3] at hA hval
  obtain ⟨v0, vs0, d0, ds0, p0, q0, hargs, rfl, rfl, h0, r0⟩ := trodAll_cons hA
  obtain ⟨v1, vs1, d1, ds1, p1, q1, rfl, rfl, rfl, h1, r1⟩ := trodAll_cons r0
  obtain ⟨rfl, rfl, rfl⟩ := trodAll_nil r1
  obtain rfl : args = #[v0, v1] := by cases args; simp_all
  obtain ⟨rfl, rfl⟩ := trodVars_none hV
  have hB := B0_all (w := W)
  obtain ⟨c0, rfl, -⟩ := okWide_struct Try.underlying25 (hval 0 25 v0 rfl rfl)
  obtain ⟨c1, rfl, -⟩ := okWide_struct Try.underlying27 (hval 1 27 v1 rfl rfl)
  have k0 := h0
  have lt0 : ∀ x ∈ p0, x.block < W.heap.size := by obtain ⟨m, hm⟩ := k0; exact DataW.trod_lt m _ _ _ hm
  obtain ⟨x0, ok0, rp0⟩ := arg_agg (o25 hB) h0
  have k1 := h1
  have lt1 : ∀ x ∈ p1, x.block < W.heap.size := by obtain ⟨m, hm⟩ := k1; exact DataW.trod_lt m _ _ _ hm
  obtain ⟨x1, ok1, rp1⟩ := arg_agg (o27 hB) h1
  try clear hA0 hval0 hsz0
  obtain ⟨nn, los, hn⟩ := pureFnExactDiskTear x0 ok0 x1 ok1
  refine (law_args prgR2 (RepL.cons rp0 (RepL.cons rp1 RepL.nil)) hn).mono fun e W' ⟨he, bel⟩ => ?_
  subst he
  exact ⟨_, rfl, _, _, _, [], _, [], hW', trodAll_mk1 (shut_bool Try.underlying4 _), (trodAll_cons_mk (Below.trod laidOut (by kernel_rfl) (of_decide_eq_true (by kernel_rfl)) k0 bel lt0) (trodAll_cons_mk (Below.trod laidOut (by kernel_rfl) (of_decide_eq_true (by kernel_rfl)) k1 bel lt1) trodAll_mk0)), rfl, bel.frame _, fun h => by cases h⟩
theorem over : Rows.fnExactDiskTearRow.holds Try.pinned (OpenSpec.ofChange Rows.fnExactDiskTearSpec) :=
  OpenClaim.holds_of_wide 3 Try.f3 rfl rfl rfl rfl rfl rfl rfl ⟨rfl, rfl, rfl, rfl, rfl⟩ rfl rfl rfl rfl rfl (by kernel_rfl) Try.func3 (by kernel_rfl)
    (of_decide_eq_true (by kernel_rfl)) (by unfold Func.isWrapper; first | (rw [if_pos (by decide +kernel)]; kernel_rfl) | (rw [if_neg (by decide +kernel)]; exact ⟨rfl, rfl⟩))
    (fun os started H enc _ => lifted os started H enc)
theorem proved : Rows.FnExactDiskTearSaid := over
end Go.Proofs.Ytbagbhbplhkjaaa.fnExactDiskTear
namespace Go.Proofs.Ytbagbhbplhkjaaa
theorem fnExactDiskTear_holds : Rows.FnExactDiskTearSaid := fnExactDiskTear.proved
end Go.Proofs.Ytbagbhbplhkjaaa
