/- The row of the law FnExactTrustRoot: for all arguments that the row lets in, the law's function says yes. -/
import Derived.Test.YtjfegdlgepbjoaaRows
import Derived.Test.YtjfegdlgepbjoaaTg
import Derived.Test.YtjfegdlgepbjoaaVd
import Derived.Test.YtjfegdlgepbjoaaTa
import Derived.Test.YtjfegdlgepbjoaaPFnExactTrustRoot
import Derived.WalkKit
import Derived.ProofKit
import Derived.OpenShut
import Derived.ShutString
import Derived.ChangeOld
import Derived.Below
import Derived.SizedLaws
namespace Go.Proofs.Ytjfegdlgepbjoaa.fnExactTrustRoot
open Go.ChangeShapes Go.WideShapes Go.ChangeAt Go.RowKit
open Go.ChangeMaps (open_string shut_string)
set_option linter.unusedVariables false
theorem o23 {H : Type} {enc : TypeId × Value → H} {w : World} {B : Nat → Prop} (hB : ∀ b, b < w.heap.size → B b) : COpen enc Try.prog w B (fun _ => true) true 23 (fun l : List Int => l.length ≤ maxLen ∧ ∀ a, a ∈ l → True) (fun l => [.sl 1 (l.map iI)]) :=
  copen_slice (f := iI) Try.underlying23 (by kernel_rfl) rfl (copen_int Try.underlying3) elem_int hB
theorem o39 {H : Type} {enc : TypeId × Value → H} {w : World} {B : Nat → Prop} (hB : ∀ b, b < w.heap.size → B b) : COpen enc Try.prog w B (fun _ => true) true 39 (okRoot : TRoot → Prop) (fun r => [iI r.num, .sl 1 (r.keys.map iI), iI r.need]) :=
  (copen_s3 (k0 := 1) (k1 := 1) (k2 := 1) Try.underlying39 (by kernel_rfl) rfl rfl rfl (by kernel_rfl) (by kernel_rfl) (by kernel_rfl) (copen_int Try.underlying3) (o23 hB) (copen_int Try.underlying3)).map _ _ (fun a => ⟨a.1, a.2.1, a.2.2⟩) (fun a => rfl) (fun a h => h.2.1.1)
theorem o141 {H : Type} {enc : TypeId × Value → H} {w : World} {B : Nat → Prop} (hB : ∀ b, b < w.heap.size → B b) : COpen enc Try.prog w B (fun _ => true) true 141 (fun _ => True : TMeta → Prop) (fun f => [iI f.name, iI f.ver, iI f.sum]) :=
  (copen_s3 (k0 := 1) (k1 := 1) (k2 := 1) Try.underlying141 (by kernel_rfl) rfl rfl rfl (by kernel_rfl) (by kernel_rfl) (by kernel_rfl) (copen_int Try.underlying3) (copen_int Try.underlying3) (copen_int Try.underlying3)).map _ _ (fun a => ⟨a.1, a.2.1, a.2.2⟩) (fun a => rfl) (fun a h => trivial)
theorem o60 {H : Type} {enc : TypeId × Value → H} {w : World} {B : Nat → Prop} (hB : ∀ b, b < w.heap.size → B b) : COpen enc Try.prog w B (fun _ => true) true 60 (fun l : List TMeta => l.length ≤ maxLen ∧ ∀ a, a ∈ l → (fun _ => True : TMeta → Prop) a) (fun l => [.sl 3 (l.map eMeta)]) :=
  copen_slice (f := eMeta) Try.underlying60 (by kernel_rfl) rfl (o141 hB) elem_agg hB
theorem o62 {H : Type} {enc : TypeId × Value → H} {w : World} {B : Nat → Prop} (hB : ∀ b, b < w.heap.size → B b) : COpen enc Try.prog w B (fun _ => true) true 62 (okIndex : TIndex → Prop) (fun x => [iI x.num, iI x.til, .sl 3 (x.metas.map eMeta)]) :=
  (copen_s3 (k0 := 1) (k1 := 1) (k2 := 1) Try.underlying62 (by kernel_rfl) rfl rfl rfl (by kernel_rfl) (by kernel_rfl) (by kernel_rfl) (copen_int Try.underlying3) (copen_int Try.underlying3) (o60 hB)).map _ _ (fun a => ⟨a.1, a.2.1, a.2.2⟩) (fun a => rfl) (fun a h => h.2.2.1)
theorem o64 {H : Type} {enc : TypeId × Value → H} {w : World} {B : Nat → Prop} (hB : ∀ b, b < w.heap.size → B b) : COpen enc Try.prog w B (fun _ => true) true 64 (okTrust : TTrust → Prop) (fun t => [iI t.root.num, .sl 1 (t.root.keys.map iI), iI t.root.need, bB t.has, iI t.index.num, iI t.index.til, .sl 3 (t.index.metas.map eMeta)]) :=
  (copen_s3 (k0 := 3) (k1 := 1) (k2 := 3) Try.underlying64 (by kernel_rfl) rfl rfl rfl (by kernel_rfl) (by kernel_rfl) (by kernel_rfl) (o39 hB) (copen_bool Try.underlying4) (o62 hB)).map _ _ (fun a => ⟨a.1, a.2.1, a.2.2⟩) (fun a => rfl) (fun a h => ⟨h.1, h.2.2⟩)
theorem o75 {H : Type} {enc : TypeId × Value → H} {w : World} {B : Nat → Prop} (hB : ∀ b, b < w.heap.size → B b) : COpen enc Try.prog w B (fun _ => true) true 75 (okSigRoot : (TRoot × List Int) → Prop) (fun s => [iI s.1.num, .sl 1 (s.1.keys.map iI), iI s.1.need, .sl 1 (s.2.map iI)]) :=
  (copen_s2 (k0 := 3) (k1 := 1) Try.underlying75 (by kernel_rfl) rfl rfl (by kernel_rfl) (by kernel_rfl) (o39 hB) (o23 hB)).map _ _ (fun a => a) (fun a => rfl) (fun a h => ⟨h.1, h.2.1⟩)
theorem own : ownKnob Try.prog.godebug = none := by kernel_rfl
theorem laidOut : laidOutB Try.prog = true := by kernel_rfl
set_option maxRecDepth 100000 in
theorem lifted (os : Os) (started : os.Started) (H : Type) (enc : TypeId × Value → H) :
    ReturnsInHanded {} Try.checked os 12 .any (Rows.fnExactTrustRootSpec.pre6 enc Try.prog Try.f12 Rows.fnExactTrustRootRow.domain false) (Rows.fnExactTrustRootSpec.post enc Try.prog Try.f12 false true false false) := by
  refine returnsInHanded_of_change_sized (C := Try.checked) own started (by kernel_rfl) Try.func12
    (ChangeSpec.witness6 (enc := enc) (C := Try.checked) false ⟨#[], #[(.agg #[.int .i64 0, .slice none 0 0, .int .i64 0, .bool false, .int .i64 0, .int .i64 0, .slice none 0 0]), (.agg #[.int .i64 0, .slice none 0 0, .int .i64 0, .slice none 0 0])], []⟩ 8 (by kernel_rfl) (by kernel_rfl) (by kernel_rfl) (by kernel_rfl)) ?_
  intro W base args ds gs before hval0 hW hcnd hsz0 _
  have hval : ∀ (j : Nat) t v, Try.f12.params[j]? = some t → args[j]? = some v → Value.okWide Try.prog W .any base t v := hval0
  have hW' := hW
  obtain ⟨p, q, hA0, hV, rfl, hfz, hnd⟩ := hW
  have hA : DataW.TrodAll enc Try.prog W 0 (fun _ => true) true Try.f12.params.toList args.toList ds p := hA0
  rw [Try.params12] at hA hval
  obtain ⟨v0, vs0, d0, ds0, p0, q0, hargs, rfl, rfl, h0, r0⟩ := trodAll_cons hA
  obtain ⟨v1, vs1, d1, ds1, p1, q1, rfl, rfl, rfl, h1, r1⟩ := trodAll_cons r0
  obtain ⟨rfl, rfl, rfl⟩ := trodAll_nil r1
  obtain rfl : args = #[v0, v1] := by cases args; simp_all
  obtain ⟨rfl, rfl⟩ := trodVars_none hV
  have hB := B0_all (w := W)
  obtain ⟨c0, rfl, -⟩ := okWide_struct Try.underlying64 (hval 0 64 v0 rfl rfl)
  obtain ⟨c1, rfl, -⟩ := okWide_struct Try.underlying75 (hval 1 75 v1 rfl rfl)
  have k0 := h0
  have lt0 : ∀ x ∈ p0, x.block < W.heap.size := by obtain ⟨m, hm⟩ := k0; exact DataW.trod_lt m _ _ _ hm
  obtain ⟨x0, ok0, rp0⟩ := arg_agg (o64 hB) h0
  have k1 := h1
  have lt1 : ∀ x ∈ p1, x.block < W.heap.size := by obtain ⟨m, hm⟩ := k1; exact DataW.trod_lt m _ _ _ hm
  obtain ⟨x1, ok1, rp1⟩ := arg_agg (o75 hB) h1
  clear hA0 hval0 hsz0
  obtain ⟨nn, los, hn⟩ := pureFnExactTrustRoot x0 ok0 x1 ok1
  refine (law_args prgR (RepL.cons rp0 (RepL.cons rp1 RepL.nil)) hn).mono fun e W' ⟨he, bel⟩ => ?_
  subst he
  exact ⟨_, rfl, _, _, _, [], _, [], hW', trodAll_mk1 (shut_bool Try.underlying4 _), (trodAll_cons_mk (Below.trod laidOut (by kernel_rfl) (of_decide_eq_true (by kernel_rfl)) k0 bel lt0) (trodAll_cons_mk (Below.trod laidOut (by kernel_rfl) (of_decide_eq_true (by kernel_rfl)) k1 bel lt1) trodAll_mk0)), rfl, bel.frame _, fun h => by cases h⟩
theorem over : Rows.fnExactTrustRootRow.holds Try.pinned (OpenSpec.ofChange Rows.fnExactTrustRootSpec) :=
  OpenClaim.holds_of_wide 12 Try.f12 rfl rfl rfl rfl rfl rfl rfl ⟨rfl, rfl, rfl, rfl, rfl⟩ rfl rfl rfl rfl rfl (by kernel_rfl) Try.func12 (by kernel_rfl)
    (of_decide_eq_true (by kernel_rfl)) (by unfold Func.isWrapper; first | (rw [if_pos (by decide +kernel)]; kernel_rfl) | (rw [if_neg (by decide +kernel)]; exact ⟨rfl, rfl⟩))
    (fun os started H enc _ => lifted os started H enc)
theorem proved : Rows.FnExactTrustRootSaid := over
end Go.Proofs.Ytjfegdlgepbjoaa.fnExactTrustRoot
namespace Go.Proofs.Ytjfegdlgepbjoaa
/-- The row, under a short name, for the claim. -/
theorem fnExactTrustRoot_holds : Rows.FnExactTrustRootSaid := fnExactTrustRoot.proved
end Go.Proofs.Ytjfegdlgepbjoaa
