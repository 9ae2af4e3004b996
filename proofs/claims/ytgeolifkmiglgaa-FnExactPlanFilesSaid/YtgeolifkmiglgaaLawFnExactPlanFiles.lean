/- The row of the law FnExactPlanFiles: for all arguments that the row lets in, the law's function says yes. -/
import Derived.Test.YtgeolifkmiglgaaRows
import Derived.Test.YtgeolifkmiglgaaTg
import Derived.Test.YtgeolifkmiglgaaV7
import Derived.Test.YtgeolifkmiglgaaPFnExactPlanFiles
import Derived.WalkKit
import Derived.ProofKit
import Derived.OpenShut
import Derived.ShutString
import Derived.ChangeOld
import Derived.Below
import Derived.SizedLaws
namespace Go.Proofs.Ytgeolifkmiglgaa.fnExactPlanFiles
open Go.ChangeShapes Go.WideShapes Go.ChangeAt Go.RowKit
open Go.ChangeMaps (open_string shut_string)
set_option linter.unusedVariables false
theorem o122 {H : Type} {enc : TypeId × Value → H} {w : World} {B : Nat → Prop} (hB : ∀ b, b < w.heap.size → B b) : COpen enc Try.prog w B (fun _ => true) true 122 (fun _ => True : TFile → Prop) (fun f => [iI f.path, iI f.data]) :=
  (copen_s2 (k0 := 1) (k1 := 1) Try.underlying122 (by kernel_rfl) rfl rfl (by kernel_rfl) (by kernel_rfl) (copen_int Try.underlying3) (copen_int Try.underlying3)).map _ _ (fun a => ⟨a.1, a.2⟩) (fun a => rfl) (fun a h => trivial)
theorem o72 {H : Type} {enc : TypeId × Value → H} {w : World} {B : Nat → Prop} (hB : ∀ b, b < w.heap.size → B b) : COpen enc Try.prog w B (fun _ => true) true 72 (fun l : List TFile => l.length ≤ maxLen ∧ ∀ a, a ∈ l → (fun _ => True : TFile → Prop) a) (fun l => [.sl 2 (l.map eFile)]) :=
  copen_slice (f := eFile) Try.underlying72 (by kernel_rfl) rfl (o122 hB) elem_agg hB
theorem o124 {H : Type} {enc : TypeId × Value → H} {w : World} {B : Nat → Prop} (hB : ∀ b, b < w.heap.size → B b) : COpen enc Try.prog w B (fun _ => true) true 124 (fun _ => True : TDep → Prop) (fun f => [iI f.name, iI f.least]) :=
  (copen_s2 (k0 := 1) (k1 := 1) Try.underlying124 (by kernel_rfl) rfl rfl (by kernel_rfl) (by kernel_rfl) (copen_int Try.underlying3) (copen_int Try.underlying3)).map _ _ (fun a => ⟨a.1, a.2⟩) (fun a => rfl) (fun a h => trivial)
theorem o73 {H : Type} {enc : TypeId × Value → H} {w : World} {B : Nat → Prop} (hB : ∀ b, b < w.heap.size → B b) : COpen enc Try.prog w B (fun _ => true) true 73 (fun l : List TDep => l.length ≤ maxLen ∧ ∀ a, a ∈ l → (fun _ => True : TDep → Prop) a) (fun l => [.sl 2 (l.map eDep)]) :=
  copen_slice (f := eDep) Try.underlying73 (by kernel_rfl) rfl (o124 hB) elem_agg hB
theorem o75 {H : Type} {enc : TypeId × Value → H} {w : World} {B : Nat → Prop} (hB : ∀ b, b < w.heap.size → B b) : COpen enc Try.prog w B (fun _ => true) true 75 (okPkg : TPkg → Prop) (fun p => [iI p.name, iI p.ver, .sl 2 (p.files.map eFile), .sl 2 (p.deps.map eDep)]) :=
  (copen_s4 (k0 := 1) (k1 := 1) (k2 := 1) (k3 := 1) Try.underlying75 (by kernel_rfl) rfl rfl rfl rfl (by kernel_rfl) (by kernel_rfl) (by kernel_rfl) (by kernel_rfl) (copen_int Try.underlying3) (copen_int Try.underlying3) (o72 hB) (o73 hB)).map _ _ (fun a => ⟨a.1, a.2.1, a.2.2.1, a.2.2.2⟩) (fun a => rfl) (fun a h => ⟨h.2.2.1.1, h.2.2.2.1⟩)
theorem o36 {H : Type} {enc : TypeId × Value → H} {w : World} {B : Nat → Prop} (hB : ∀ b, b < w.heap.size → B b) : COpen enc Try.prog w B (fun _ => true) true 36 (fun l : List TPkg => l.length ≤ maxLen ∧ ∀ a, a ∈ l → (okPkg : TPkg → Prop) a) (fun l => [.sl 4 (l.map ePkg)]) :=
  copen_slice (f := ePkg) Try.underlying36 (by kernel_rfl) rfl (o75 hB) elem_agg hB
theorem own : ownKnob Try.prog.godebug = none := by kernel_rfl
theorem laidOut : laidOutB Try.prog = true := by kernel_rfl
set_option maxRecDepth 100000 in
theorem lifted (os : Os) (started : os.Started) (H : Type) (enc : TypeId × Value → H) :
    ReturnsInHanded {} Try.checked os 11 .any (Rows.fnExactPlanFilesSpec.pre6 enc Try.prog Try.f11 Rows.fnExactPlanFilesRow.domain false) (Rows.fnExactPlanFilesSpec.post enc Try.prog Try.f11 false true false false) := by
  refine returnsInHanded_of_change_sized (C := Try.checked) own started (by kernel_rfl) Try.func11
    (ChangeSpec.witness6 (enc := enc) (C := Try.checked) false ⟨#[], #[.slice none 0 0], []⟩ 8 (by kernel_rfl) (by kernel_rfl) (by kernel_rfl) (by kernel_rfl)) ?_
  intro W base args ds gs before hval0 hW hcnd hsz0 _
  have hval : ∀ (j : Nat) t v, Try.f11.params[j]? = some t → args[j]? = some v → Value.okWide Try.prog W .any base t v := hval0
  have hW' := hW
  obtain ⟨p, q, hA0, hV, rfl, hfz, hnd⟩ := hW
  have hA : DataW.TrodAll enc Try.prog W 0 (fun _ => true) true Try.f11.params.toList args.toList ds p := hA0
  rw [Try.params11] at hA hval
  obtain ⟨v0, vs0, d0, ds0, p0, q0, hargs, rfl, rfl, h0, r0⟩ := trodAll_cons hA
  obtain ⟨rfl, rfl, rfl⟩ := trodAll_nil r0
  obtain rfl : args = #[v0] := by cases args; simp_all
  obtain ⟨rfl, rfl⟩ := trodVars_none hV
  have hB := B0_all (w := W)
  obtain ⟨a0, len0, cap0, rfl⟩ := okWide_slice Try.underlying36 (hval 0 36 v0 rfl rfl)
  have k0 := h0
  have lt0 : ∀ x ∈ p0, x.block < W.heap.size := by obtain ⟨m, hm⟩ := k0; exact DataW.trod_lt m _ _ _ hm
  obtain ⟨x0, ok0, rp0⟩ := arg_one (o36 hB) h0 rfl
  try clear hA0 hval0 hsz0
  obtain ⟨nn, los, hn⟩ := pureFnExactPlanFiles x0 ok0
  refine (law_args prgR2 (RepL.cons rp0 RepL.nil) hn).mono fun e W' ⟨he, bel⟩ => ?_
  subst he
  exact ⟨_, rfl, _, _, _, [], _, [], hW', trodAll_mk1 (shut_bool Try.underlying4 _), (trodAll_cons_mk (Below.trod laidOut (by kernel_rfl) (of_decide_eq_true (by kernel_rfl)) k0 bel lt0) trodAll_mk0), rfl, bel.frame _, fun h => by cases h⟩
theorem over : Rows.fnExactPlanFilesRow.holds Try.pinned (OpenSpec.ofChange Rows.fnExactPlanFilesSpec) :=
  OpenClaim.holds_of_wide 11 Try.f11 rfl rfl rfl rfl rfl rfl rfl ⟨rfl, rfl, rfl, rfl, rfl⟩ rfl rfl rfl rfl rfl (by kernel_rfl) Try.func11 (by kernel_rfl)
    (of_decide_eq_true (by kernel_rfl)) (by unfold Func.isWrapper; first | (rw [if_pos (by decide +kernel)]; kernel_rfl) | (rw [if_neg (by decide +kernel)]; exact ⟨rfl, rfl⟩))
    (fun os started H enc _ => lifted os started H enc)
theorem proved : Rows.FnExactPlanFilesSaid := over
end Go.Proofs.Ytgeolifkmiglgaa.fnExactPlanFiles
namespace Go.Proofs.Ytgeolifkmiglgaa
theorem fnExactPlanFiles_holds : Rows.FnExactPlanFilesSaid := fnExactPlanFiles.proved
end Go.Proofs.Ytgeolifkmiglgaa
