/- The row of the law FnExactTrustNew: for all arguments that the row lets in, the law's function says yes. -/
import Derived.Test.YtjfegdlgepbjoaaRows
import Derived.Test.YtjfegdlgepbjoaaTg
import Derived.Test.YtjfegdlgepbjoaaVd
import Derived.Test.YtjfegdlgepbjoaaTa
import Derived.Test.YtjfegdlgepbjoaaPFnExactTrustNew
import Derived.WalkKit
import Derived.ProofKit
import Derived.OpenShut
import Derived.ShutString
import Derived.ChangeOld
import Derived.Below
import Derived.SizedLaws
namespace Go.Proofs.Ytjfegdlgepbjoaa.fnExactTrustNew
open Go.ChangeShapes Go.WideShapes Go.ChangeAt Go.RowKit
open Go.ChangeMaps (open_string shut_string)
set_option linter.unusedVariables false
theorem o23 {H : Type} {enc : TypeId × Value → H} {w : World} {B : Nat → Prop} (hB : ∀ b, b < w.heap.size → B b) : COpen enc Try.prog w B (fun _ => true) true 23 (fun l : List Int => l.length ≤ maxLen ∧ ∀ a, a ∈ l → True) (fun l => [.sl 1 (l.map iI)]) :=
  copen_slice (f := iI) Try.underlying23 (by kernel_rfl) rfl (copen_int Try.underlying3) elem_int hB
theorem o39 {H : Type} {enc : TypeId × Value → H} {w : World} {B : Nat → Prop} (hB : ∀ b, b < w.heap.size → B b) : COpen enc Try.prog w B (fun _ => true) true 39 (okRoot : TRoot → Prop) (fun r => [iI r.num, .sl 1 (r.keys.map iI), iI r.need]) :=
  (copen_s3 (k0 := 1) (k1 := 1) (k2 := 1) Try.underlying39 (by kernel_rfl) rfl rfl rfl (by kernel_rfl) (by kernel_rfl) (by kernel_rfl) (copen_int Try.underlying3) (o23 hB) (copen_int Try.underlying3)).map _ _ (fun a => ⟨a.1, a.2.1, a.2.2⟩) (fun a => rfl) (fun a h => h.2.1.1)
theorem own : ownKnob Try.prog.godebug = none := by kernel_rfl
theorem laidOut : laidOutB Try.prog = true := by kernel_rfl
set_option maxRecDepth 100000 in
theorem lifted (os : Os) (started : os.Started) (H : Type) (enc : TypeId × Value → H) :
    ReturnsInHanded {} Try.checked os 4 .any (Rows.fnExactTrustNewSpec.pre6 enc Try.prog Try.f4 Rows.fnExactTrustNewRow.domain false) (Rows.fnExactTrustNewSpec.post enc Try.prog Try.f4 false true false false) := by
  refine returnsInHanded_of_change_sized (C := Try.checked) own started (by kernel_rfl) Try.func4
    (ChangeSpec.witness6 (enc := enc) (C := Try.checked) false ⟨#[], #[(.agg #[.int .i64 0, .slice none 0 0, .int .i64 0])], []⟩ 8 (by kernel_rfl) (by kernel_rfl) (by kernel_rfl) (by kernel_rfl)) ?_
  intro W base args ds gs before hval0 hW hcnd hsz0 _
  have hval : ∀ (j : Nat) t v, Try.f4.params[j]? = some t → args[j]? = some v → Value.okWide Try.prog W .any base t v := hval0
  have hW' := hW
  obtain ⟨p, q, hA0, hV, rfl, hfz, hnd⟩ := hW
  have hA : DataW.TrodAll enc Try.prog W 0 (fun _ => true) true Try.f4.params.toList args.toList ds p := hA0
  rw [Try.params4] at hA hval
  obtain ⟨v0, vs0, d0, ds0, p0, q0, hargs, rfl, rfl, h0, r0⟩ := trodAll_cons hA
  obtain ⟨rfl, rfl, rfl⟩ := trodAll_nil r0
  obtain rfl : args = #[v0] := by cases args; simp_all
  obtain ⟨rfl, rfl⟩ := trodVars_none hV
  have hB := B0_all (w := W)
  obtain ⟨c0, rfl, -⟩ := okWide_struct Try.underlying39 (hval 0 39 v0 rfl rfl)
  have k0 := h0
  have lt0 : ∀ x ∈ p0, x.block < W.heap.size := by obtain ⟨m, hm⟩ := k0; exact DataW.trod_lt m _ _ _ hm
  obtain ⟨x0, ok0, rp0⟩ := arg_agg (o39 hB) h0
  clear hA0 hval0 hsz0
  obtain ⟨nn, los, hn⟩ := pureFnExactTrustNew x0 ok0
  refine (law_args prgR (RepL.cons rp0 RepL.nil) hn).mono fun e W' ⟨he, bel⟩ => ?_
  subst he
  exact ⟨_, rfl, _, _, _, [], _, [], hW', trodAll_mk1 (shut_bool Try.underlying4 _), (trodAll_cons_mk (Below.trod laidOut (by kernel_rfl) (of_decide_eq_true (by kernel_rfl)) k0 bel lt0) trodAll_mk0), rfl, bel.frame _, fun h => by cases h⟩
theorem over : Rows.fnExactTrustNewRow.holds Try.pinned (OpenSpec.ofChange Rows.fnExactTrustNewSpec) :=
  OpenClaim.holds_of_wide 4 Try.f4 rfl rfl rfl rfl rfl rfl rfl ⟨rfl, rfl, rfl, rfl, rfl⟩ rfl rfl rfl rfl rfl (by kernel_rfl) Try.func4 (by kernel_rfl)
    (of_decide_eq_true (by kernel_rfl)) (by unfold Func.isWrapper; first | (rw [if_pos (by decide +kernel)]; kernel_rfl) | (rw [if_neg (by decide +kernel)]; exact ⟨rfl, rfl⟩))
    (fun os started H enc _ => lifted os started H enc)
theorem proved : Rows.FnExactTrustNewSaid := over
end Go.Proofs.Ytjfegdlgepbjoaa.fnExactTrustNew
namespace Go.Proofs.Ytjfegdlgepbjoaa
/-- The row, under a short name, for the claim. -/
theorem fnExactTrustNew_holds : Rows.FnExactTrustNewSaid := fnExactTrustNew.proved
end Go.Proofs.Ytjfegdlgepbjoaa
