/- The evaluator S: the table of types is right, where a check by the kernel says so. -/
import Derived.Test.YtjfegdlgepbjoaaSt
import Derived.Laws.StructEq
import Derived.KernelRfl
namespace Go.Proofs.Ytjfegdlgepbjoaa
open Go
set_option linter.unusedVariables false
set_option linter.unusedSimpArgs false
variable {P : Program} {T : Tab}

def zkChk (v : Value) (z : ZK) : Bool :=
  match v, z with
  | .int k n, .int k' => decide (k = k') && decide (n = 0)
  | .bool false, .bool => true
  | .string ⟨⟨[]⟩⟩, .str => true
  | .slice none 0 0, .sl _ => true
  | .nilFunc, .fn => true
  | .pointer none, .ptr => true
  | _, _ => false

def zksChk : List Value → List ZK → Bool
  | [], [] => true
  | v :: vs, z :: zs => zkChk v z && zksChk vs zs
  | _, _ => false

theorem zkChk_ok {v : Value} {z : ZK} (h : zkChk v z = true) : v = z.val := by
  unfold zkChk at h
  split at h <;> first | rfl | (cases h; done) | skip
  simp only [Bool.and_eq_true, decide_eq_true_eq] at h
  obtain ⟨rfl, rfl⟩ := h
  rfl

theorem zksChk_ok : ∀ {vs : List Value} {zs : List ZK}, zksChk vs zs = true → vs = zs.map ZK.val
  | [], [], _ => rfl
  | v :: vs, z :: zs, h => by
    simp only [zksChk, Bool.and_eq_true] at h
    rw [zkChk_ok h.1, zksChk_ok h.2]; rfl
  | [], _ :: _, h => by cases h
  | _ :: _, [], h => by cases h

def isAggV (z : Value) : Bool :=
  match z with
  | .agg _ => true
  | _ => false

def aggShape (agg : Bool) (z : Value) : Bool := if agg = true then isAggV z else z.oneCell'

def tiChk (P : Program) (t : Nat) (i : TI) : Bool :=
  match P.info? t, P.underlying t with
  | some info, some d =>
    match info.zero with
    | some z => Nat.beq info.size i.size && Nat.beq info.bytes i.bytes && zksChk z.cells.toList i.zero && (aggDesc d == i.agg) && aggShape i.agg z && Nat.beq i.zero.length i.size
    | none => false
  | _, _ => false

theorem tiChk_ok {t : Nat} {i : TI} (h : tiChk P t i = true) : TiOk P t i := by
  unfold tiChk at h
  split at h
  · rename_i info d h1 h2
    split at h
    · rename_i z hz
      simp only [Bool.and_eq_true, Nat.beq_eq, beq_iff_eq] at h
      obtain ⟨⟨⟨⟨⟨a1, a2⟩, a3⟩, a4⟩, a5⟩, a6⟩ := h
      refine ⟨info, z, d, h1, a1, a2, hz, zksChk_ok a3, h2, a4, ⟨fun e => ?_, fun e => ?_⟩, a6⟩
      · rw [e] at a5
        simp only [aggShape, if_true] at a5
        cases z <;> first | exact ⟨_, rfl⟩ | cases a5
      · rw [e] at a5
        simpa [aggShape] using a5
    · cases h
  · cases h

def tiAll (P : Program) : Nat → List (Option TI) → Bool
  | _, [] => true
  | t, none :: l => tiAll P (t + 1) l
  | t, some i :: l => match tiChk P t i with | true => tiAll P (t + 1) l | false => false

theorem tiAll_ok : ∀ {l : List (Option TI)} {k : Nat}, tiAll P k l = true → ∀ t i, l[t]? = some (some i) → TiOk P (k + t) i
  | [], _, _, t, i, h => by simp at h
  | x :: l, k, h, t, i, ht => by
    cases t with
    | zero =>
      simp at ht; subst ht
      simp only [tiAll] at h
      split at h
      · rename_i hc; exact tiChk_ok hc
      · cases h
    | succ t =>
      have hl : tiAll P (k + 1) l = true := by
        cases x with
        | none => exact h
        | some j =>
          simp only [tiAll] at h
          split at h
          · exact h
          · cases h
      have := tiAll_ok hl t i (by simpa using ht)
      rw [show k + (t + 1) = k + 1 + t by omega]; exact this

def fieldsChk (P : Program) : List Field → List (Nat × Nat) → Bool
  | [], [] => true
  | f :: fs, (o, t) :: l => Nat.beq f.offset o && Nat.beq f.type t && (P.info? f.type).isSome && fieldsChk P fs l
  | _, _ => false

theorem fieldsChk_ok : ∀ {fs : List Field} {l : List (Nat × Nat)}, fieldsChk P fs l = true → fs.map (fun f => (f.offset, f.type)) = l ∧ ∀ f, f ∈ fs → (P.info? f.type).isSome = true
  | [], [], _ => ⟨rfl, fun f h => by cases h⟩
  | f :: fs, (o, t) :: l, h => by
    simp only [fieldsChk, Bool.and_eq_true, Nat.beq_eq] at h
    obtain ⟨⟨⟨a1, a2⟩, a3⟩, a4⟩ := h
    obtain ⟨b1, b2⟩ := fieldsChk_ok a4
    refine ⟨by simp [a1, a2, b1], fun g hg => ?_⟩
    rcases List.mem_cons.1 hg with rfl | hg
    · exact a3
    · exact b2 g hg
  | [], _ :: _, h => by cases h
  | _ :: _, [], h => by cases h

/-- Fields that are whole numbers, one cell behind the other. -/
def intFields (P : Program) : Nat → List Field → Bool
  | _, [] => true
  | o, f :: fs => Nat.beq f.offset o && (f.name != "_") && (match P.underlying f.type with | some (.int _) => true | _ => false) && intFields P (o + 1) fs

def eqsChk (P : Program) (t : Nat) (fields : Array Field) : Bool :=
  !(P.eqGuardType P.depth t) && !(P.stoodInHeld t) && intFields P 0 fields.toList

def ukD (P : Program) (t : Nat) (u : UK) (d : TypeDesc) : Bool :=
  match u, d with
  | .str, .string => true
  | .bool, .bool => true
  | .int k, .int k' => decide (k' = k)
  | .slice e, .slice e' => Nat.beq e' e
  | .array n e, .array n' e' => Nat.beq n' n && Nat.beq e' e
  | .struct fs, .struct fields => fieldsChk P fields.toList fs
  | .eqs fs, .struct fields => fieldsChk P fields.toList fs && eqsChk P t fields
  | _, _ => false

def ukChk (P : Program) (t : Nat) (u : UK) : Bool :=
  match P.underlying t with
  | some d => ukD P t u d
  | none => false

def ukAll (P : Program) : Nat → List (Option UK) → Bool
  | _, [] => true
  | t, none :: l => ukAll P (t + 1) l
  | t, some u :: l => match ukChk P t u with | true => ukAll P (t + 1) l | false => false

theorem ukAll_ok : ∀ {l : List (Option UK)} {k : Nat}, ukAll P k l = true → ∀ t u, l[t]? = some (some u) → ukChk P (k + t) u = true
  | [], _, _, t, i, h => by simp at h
  | x :: l, k, h, t, i, ht => by
    cases t with
    | zero =>
      simp at ht; subst ht
      simp only [ukAll] at h
      split at h
      · rename_i hc; exact hc
      · cases h
    | succ t =>
      have hl : ukAll P (k + 1) l = true := by
        cases x with
        | none => exact h
        | some j =>
          simp only [ukAll] at h
          split at h
          · exact h
          · cases h
      have := ukAll_ok hl t i (by simpa using ht)
      rw [show k + (t + 1) = k + 1 + t by omega]; exact this

theorem eqFields_ints (d : Nat) {w : World} : ∀ (fs : List Field) (k : Nat) (xs ys : List Value) (r : Bool), intFields P k fs = true → fs.length + k = xs.length → xs.length = ys.length → intsEq (xs.drop k) (ys.drop k) = some r →
    (Op.eqFields (d + 1) xs.toArray ys.toArray fs).run P w = .ok r w := by
  intro fs
  induction fs with
  | nil =>
    intro k xs ys r h hl hlen he
    rw [List.drop_eq_nil_of_le (by simp at hl; omega), List.drop_eq_nil_of_le (by simp at hl; omega)] at he
    simp only [intsEq, Option.some.injEq] at he
    subst he
    simp [Op.eqFields]
  | cons f fs ih =>
    intro k xs ys r h hl hlen he
    simp only [intFields, Bool.and_eq_true, Nat.beq_eq, bne_iff_ne, ne_eq] at h
    obtain ⟨⟨⟨h1, h2⟩, h3⟩, h4⟩ := h
    simp at hl
    have hx : k < xs.length := by omega
    have hy : k < ys.length := by omega
    rw [List.drop_eq_getElem_cons hx, List.drop_eq_getElem_cons hy] at he
    unfold intsEq at he
    split at he
    · rename_i e1 e2; cases e1
    · rename_i ki a xs' ki' b ys' e1 e2
      obtain ⟨e1a, e1b⟩ := List.cons.inj e1
      obtain ⟨e2a, e2b⟩ := List.cons.inj e2
      split at he
      · rename_i hk
        split at he
        · rename_i r' hr'
          obtain rfl := Option.some.inj he
          rw [← e1b, ← e2b] at hr'
          have hrec := ih (k + 1) xs ys r' h4 (by omega) hlen hr'
          split at h3
          · rename_i kk hkk
            have p1 : ∀ (cs : List Value) (v : Value), cs[k]? = some v → (part f.type cs.toArray f.offset).run P w = .ok v w := by
              intro cs v hv
              have : (isAgg f.type).run P w = .ok false w := run_agg hkk w
              simp [part, this, h1, hv]
            have q1 := p1 xs _ (List.getElem?_eq_getElem hx)
            have q2 := p1 ys _ (List.getElem?_eq_getElem hy)
            rw [e1a] at q1
            rw [e2a] at q2
            subst hk
            simp only [Op.eqFields, h2, not_false_eq_true, if_true, ne_eq, Sem.run_bind, q1, q2, Result.andThen_ok, run_equalIn_int (w := w) d f.type ki kk a b hkk, Sem.run_ite]
            cases hab : (a == b)
            · simp
            · simp [hrec]
          · cases h3
        · cases he
      · cases he
    · cases he

/-- A struct of whole numbers has as many cells as fields. -/
def eqsAll : List (Option TI) → List (Option UK) → Bool
  | some i :: l, some (.eqs fs) :: us => Nat.beq fs.length i.size && eqsAll l us
  | _ :: l, _ :: us => eqsAll l us
  | _, _ => true

theorem eqsAll_ok : ∀ {l : List (Option TI)} {us : List (Option UK)}, eqsAll l us = true → ∀ (t : Nat) fs i, us[t]? = some (some (.eqs fs)) → l[t]? = some (some i) → fs.length = i.size
  | [], _, _, t, fs, i, _, h => by simp at h
  | _ :: _, [], _, t, fs, i, h, _ => by simp at h
  | x :: l, u :: us, h, t, fs, i, hu, hl => by
    cases t with
    | zero =>
      simp at hu hl
      subst hu; subst hl
      simp only [eqsAll, Bool.and_eq_true, Nat.beq_eq] at h
      exact h.1
    | succ t =>
      have h' : eqsAll l us = true := by
        unfold eqsAll at h
        split at h
        · rename_i e1 e2
          obtain ⟨-, rfl⟩ := List.cons.inj e1
          obtain ⟨-, rfl⟩ := List.cons.inj e2
          simp only [Bool.and_eq_true] at h; exact h.2
        · rename_i e1 e2
          obtain ⟨-, rfl⟩ := List.cons.inj e1
          obtain ⟨-, rfl⟩ := List.cons.inj e2
          exact h
        · rename_i h1 h2; exact absurd rfl (h2 _ _ _ _ rfl)
      exact eqsAll_ok h' t fs i (by simpa using hu) (by simpa using hl)

theorem tab_ok {tiL : List (Option TI)} {ukL : List (Option UK)} (h1 : tiAll P 0 tiL = true) (h2 : ukAll P 0 ukL = true) (h3 : eqsAll tiL ukL = true) : TabOk P { ti := fun t => (tiL[t]?).getD none, und := fun t => (ukL[t]?).getD none } := by
  have g1 : ∀ t i, (tiL[t]?).getD none = some i → TiOk P t i := fun t i h => by
    cases hx : tiL[t]? with
    | none => rw [hx] at h; cases h
    | some x => rw [hx] at h; simp at h; subst h; simpa using tiAll_ok h1 t i hx
  have g2 : ∀ t u, (ukL[t]?).getD none = some u → ukChk P t u = true := fun t u h => by
    cases hx : ukL[t]? with
    | none => rw [hx] at h; cases h
    | some x => rw [hx] at h; simp at h; subst h; simpa using ukAll_ok h2 t u hx
  have U : ∀ t u, (ukL[t]?).getD none = some u → ∃ d, P.underlying t = some d ∧ ukD P t u d = true := fun t u h => by
    have := g2 t u h
    unfold ukChk at this
    cases hu : P.underlying t with
    | none => rw [hu] at this; cases this
    | some d => rw [hu] at this; exact ⟨d, rfl, this⟩
  refine ⟨g1, fun t h => ?_, fun t h => ?_, fun t k h => ?_, fun t e h => ?_, fun t n e h => ?_, fun t u fs h hf => ?_, fun t fs i h hi => ?_⟩
  · obtain ⟨d, hd, hc⟩ := U t _ h
    cases d <;> first | exact hd | (cases hc; done)
  · obtain ⟨d, hd, hc⟩ := U t _ h
    cases d <;> first | exact hd | (cases hc; done)
  · obtain ⟨d, hd, hc⟩ := U t _ h
    cases d <;> first | (cases hc; done) | skip
    simp only [ukD, decide_eq_true_eq] at hc
    rw [hd, hc]
  · obtain ⟨d, hd, hc⟩ := U t _ h
    cases d <;> first | (cases hc; done) | skip
    simp only [ukD, Nat.beq_eq] at hc
    rw [hd, hc]
  · obtain ⟨d, hd, hc⟩ := U t _ h
    cases d <;> first | (cases hc; done) | skip
    simp only [ukD, Nat.beq_eq, Bool.and_eq_true] at hc
    rw [hd, hc.1, hc.2]
  · obtain ⟨d, hd, hc⟩ := U t _ h
    cases u <;> first | (cases hf; done) | skip
    · cases hf
      cases d <;> first | (cases hc; done) | skip
      obtain ⟨b1, b2⟩ := fieldsChk_ok hc
      exact ⟨_, hd, b1, b2⟩
    · cases hf
      cases d <;> first | (cases hc; done) | skip
      simp only [ukD, Bool.and_eq_true] at hc
      obtain ⟨b1, b2⟩ := fieldsChk_ok hc.1
      exact ⟨_, hd, b1, b2⟩
  · obtain ⟨d, hd, hc⟩ := U t _ h
    cases d <;> first | (cases hc; done) | skip
    rename_i fields
    simp only [ukD, eqsChk, Bool.and_eq_true, Bool.not_eq_true'] at hc
    obtain ⟨b1, b2⟩ := fieldsChk_ok hc.1
    refine ⟨hc.2.1.1, fun xs ys r w he hl => ?_⟩
    have hfo : P.fieldsOf t = fields := by unfold Program.fieldsOf; rw [hd]
    have hlen : ∀ (xs ys : List Value) (r : Bool), intsEq xs ys = some r → xs.length = ys.length := by
      intro xs
      induction xs with
      | nil => intro ys r h; cases ys <;> simp [intsEq] at h ⊢
      | cons x xs ih =>
        intro ys r h
        unfold intsEq at h
        split at h
        · rename_i e; cases e
        · rename_i e1
          obtain ⟨-, rfl⟩ := List.cons.inj e1
          split at h
          · split at h
            · rename_i hr; simp [ih _ _ hr]
            · cases h
          · cases h
        · cases h
    have hti := g1 t i hi
    obtain ⟨info, z, d', k1, k2, k3, k4, k5, k6, k7, k8, k9⟩ := hti.ok
    have hfl : fields.toList.length = i.size := by
      have e1 : fs.length = i.size := by
        refine eqsAll_ok h3 t fs i ?_ ?_
        · cases hx : ukL[t]? with
          | none => simp only [hx] at h; cases h
          | some x => simp only [hx] at h; simp at h; rw [h]
        · cases hx : tiL[t]? with
          | none => simp only [hx] at hi; cases hi
          | some x => simp only [hx] at hi; simp at hi; rw [hi]
      rw [← e1, ← b1, List.length_map]
    have := eqFields_ints (P := P) 9998 (w := w) fields.toList 0 xs ys r hc.2.2 (by rw [hl]; simpa using hfl) (hlen xs ys r he) (by simpa using he)
    have e := run_equalIn_agg (P := P) w 9999 t xs.toArray ys.toArray (by rw [hfo]; exact hd) hc.2.1.2
    rw [hfo] at e
    show (Op.equalIn 10000 t _ _).run P w = _
    rw [e]
    exact this

end Go.Proofs.Ytjfegdlgepbjoaa
