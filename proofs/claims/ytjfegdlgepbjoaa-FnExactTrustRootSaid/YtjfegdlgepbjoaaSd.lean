/- The evaluator S: what is asked of the table of types; how memory may change; operations that only read. -/
import Derived.Test.YtjfegdlgepbjoaaSc
import Derived.Laws.Entries
import Derived.Laws.Append
import Derived.Laws.MakeOwn
import Derived.Laws.Small
import Derived.Laws.Slices
import Derived.Laws.Strings
namespace Go.Proofs.Ytjfegdlgepbjoaa
open Go
set_option linter.unusedVariables false
set_option linter.unusedSimpArgs false

def aggDesc : TypeDesc → Bool
  | .struct _ | .array _ _ => true
  | _ => false

def intsEq : List Value → List Value → Option Bool
  | [], [] => some true
  | .int k a :: xs, .int k' b :: ys => if k = k' then match intsEq xs ys with | some r => some (a == b && r) | none => none else none
  | _, _ => none

structure TiOk (P : Program) (t : Nat) (i : TI) : Prop where
  ok : ∃ info z d, P.info? t = some info ∧ info.size = i.size ∧ info.bytes = i.bytes ∧ info.zero = some z ∧ z.cells.toList = i.zero.map ZK.val ∧
    P.underlying t = some d ∧ aggDesc d = i.agg ∧ ((i.agg = true → ∃ cs, z = .agg cs) ∧ (i.agg = false → z.oneCell' = true)) ∧ i.zero.length = i.size

structure TabOk (P : Program) (T : Tab) : Prop where
  ti : ∀ t i, T.ti t = some i → TiOk P t i
  str : ∀ t, T.und t = some .str → P.underlying t = some .string
  bool : ∀ t, T.und t = some .bool → P.underlying t = some .bool
  int : ∀ t k, T.und t = some (.int k) → P.underlying t = some (.int k)
  slice : ∀ t e, T.und t = some (.slice e) → P.underlying t = some (.slice e)
  array : ∀ t n e, T.und t = some (.array n e) → P.underlying t = some (.array n e)
  struct : ∀ t u fs, T.und t = some u → u.fields = some fs → ∃ fields : Array Field, P.underlying t = some (.struct fields) ∧ fields.toList.map (fun f => (f.offset, f.type)) = fs ∧ ∀ f, f ∈ fields.toList → (P.info? f.type).isSome = true
  eqs : ∀ t fs i, T.und t = some (.eqs fs) → T.ti t = some i → P.eqGuardType P.depth t = false ∧
    ∀ (xs ys : List Value) (r : Bool) (w : World), intsEq xs ys = some r → xs.length = i.size → (Op.equal t (.agg xs.toArray) (.agg ys.toArray)).run P w = .ok r w

variable {P : Program} {T : Tab}

theorem run_info {t : TypeId} {i : TypeInfo} (h : P.info? t = some i) (w : World) : (typeInfo t).run P w = .ok i w := by simp [typeInfo, h]

theorem run_size {t : TypeId} {i : TypeInfo} (h : P.info? t = some i) (w : World) : (sizeOf t).run P w = .ok i.size w := by simp [sizeOf, run_info h]

theorem run_zero {t : TypeId} {i : TypeInfo} {z : Value} (h : P.info? t = some i) (hz : i.zero = some z) (w : World) : (zeroValue t).run P w = .ok z w := by simp [zeroValue, run_info h, hz]

theorem run_agg {t : TypeId} {d : TypeDesc} (h : P.underlying t = some d) (w : World) : (isAgg t).run P w = .ok (aggDesc d) w := by
  unfold isAgg aggDesc
  simp only [Sem.run_bind, run_underlying h, Result.andThen_ok]
  cases d <;> rfl

/-- Reading a variable whose cells are known. -/
theorem run_loadAt {t : Nat} {i : TI} (hi : TiOk P t i) {w : World} {b o : Nat} {cs : List Value} (hc : CellsAt w b o cs) (hl : i.size ≤ cs.length) :
    (i.agg = true → (Instr.loadAt t (.pointer (some ⟨b, o, none⟩))).run P w = .ok (.agg (cs.take i.size).toArray) w) ∧
    (∀ v, i.agg = false → cs[0]? = some v → (Instr.loadAt t (.pointer (some ⟨b, o, none⟩))).run P w = .ok v w) := by
  obtain ⟨info, z, d, h1, h2, h3, h4, h5, h6, h7, h8, h9⟩ := hi.ok
  refine ⟨fun ha => ?_, fun v ha hv => ?_⟩
  · have hl' : (cs.take i.size).length = i.size := by simp [hl]
    have hr := run_loadCells_list (P := P) w ⟨b, o, none⟩ (cs.take i.size) (fun j v hj => by rw [Addr.add_lit]; exact hc.take _ j v hj)
    rw [hl'] at hr
    simp only [Instr.loadAt, Instr.sureAddr, loadVar, Sem.run_bind, Sem.run_pure, Result.andThen_ok, run_agg h6, h7, ha, if_true, run_size h1, h2, hr]
  · have := hc 0 v hv
    simp only [Nat.add_zero] at this
    simp only [Instr.loadAt, Instr.sureAddr, loadVar, Sem.run_bind, Sem.run_pure, Result.andThen_ok, run_agg h6, h7, ha, Bool.false_eq_true, if_false, run_load, this]

theorem pack_rep {w : World} {B : Nat → Prop} {g : Nat → Gh} {agg : Bool} {l : List SV} {x : SV} {vs : List Value} (h : pack agg l = some x) (hl : RepL w B g l vs) :
    (agg = true → RepV w B g x (.agg vs.toArray)) ∧ (agg = false → ∃ v, vs[0]? = some v ∧ RepV w B g x v) := by
  unfold pack at h
  split at h
  · rename_i ha
    split at h
    · rename_i hok
      obtain rfl := Option.some.inj h
      refine ⟨fun _ => .ag hl.1 hl.2 (fun v hv => ?_), fun e => by simp [ha] at e⟩
      obtain ⟨i, hi, rfl⟩ := List.mem_iff_getElem.1 hv
      have hi' : i < l.length := by rw [hl.1]; exact hi
      exact okCell_one (hl.2 i l[i] vs[i] (by simp [hi']) (by simp [hi])) (List.all_eq_true.1 hok _ (List.getElem_mem hi'))
    · simp at h
  · rename_i ha
    split at h
    · obtain rfl := Option.some.inj h
      obtain ⟨v, vs', rfl, hv, _⟩ := hl.uncons
      exact ⟨fun e => absurd e ha, fun _ => ⟨v, rfl, hv⟩⟩
    · simp at h

theorem dcells_eq {x : SV} {l : List SV} (h : dcells x = some l) : x ≠ .dead ∧ l = x.cells := by
  cases x <;> simp [dcells] at h <;> (subst h; exact ⟨by simp, rfl⟩)

theorem place_rep {fr : Fr} {os : List SO} {g : Nat → Gh} {w : World} (hm : Mem fr os g w) {p : SV} {pv : Value} {l : List SV}
    (hp : RepV w (Bk fr os g w) g p pv) (h : placeCells os p = some l) :
    ∃ b o vs, pv = .pointer (some ⟨b, o, none⟩) ∧ RepL w (Bk fr os g w) g l vs ∧ CellsAt w b o vs := by
  cases p <;> simp only [placeCells] at h <;> try (simp at h; done)
  · rename_i j off
    split at h
    · rename_i l' hj
      obtain rfl := Option.some.inj h
      obtain ⟨b, vs, h1, h2, h3, h4, h5⟩ := hm.objs _ _ hj
      cases hp with
      | ptr hp =>
        rw [h1] at hp
        cases hp
        exact ⟨_, off, vs.drop off, rfl, h2.drop _, by simpa using h4.drop off⟩
    · simp at h
  · rename_i j i off
    split at h
    · rename_i lt sz l' hj
      split at h
      · rename_i x hx
        obtain ⟨xc, hxc, rfl⟩ := Option.map_eq_some_iff.1 h
        obtain ⟨hd, rfl⟩ := dcells_eq hxc
        cases hp with
        | ap hp =>
          rcases hm.objs _ _ hj with ⟨rfl, _⟩ | ⟨b, cap, vs, h1, h2, h3, h4, h5, h6⟩
          · simp at hx
          · rw [h1] at hp
            cases hp
            obtain ⟨u, hu, hr⟩ := h3.get hx
            have hc := flatV_elem h4 hu h5
            have hr' : RepV w (Bk fr os g w) g x u := hr.mono (fun _ h => h) (fun _ _ => rfl) g (fun j hj => absurd rfl hj)
            exact ⟨_, _, u.cells.toList.drop off, rfl, (hr'.cells hd).drop _, by simpa using hc.drop off⟩
      · simp at h
    · simp at h
  · rename_i x off
    obtain ⟨xc, hxc, rfl⟩ := Option.map_eq_some_iff.1 h
    obtain ⟨hd, rfl⟩ := dcells_eq hxc
    cases hp with
    | el h1 h2 h3 =>
      rename_i u b o
      have hr' : RepV w (Bk fr os g w) g x u := h1.mono (fun _ h => h) (fun _ _ => rfl) g (fun j hj => absurd rfl hj)
      exact ⟨b, _, u.cells.toList.drop off, rfl, (hr'.cells hd).drop _, h2.drop off⟩

theorem load_rep (hT : TabOk P T) {fr : Fr} {os : List SO} {g : Nat → Gh} {w : World} (hm : Mem fr os g w) {t : Nat} {p x : SV} {pv : Value}
    (hp : RepV w (Bk fr os g w) g p pv) (h : loadS T os t p = some x) : ∃ v, (Instr.loadAt t pv).run P w = .ok v w ∧ RepV w (Bk fr os g w) g x v := by
  unfold loadS at h
  split at h
  · rename_i i hi
    split at h
    · rename_i l hl
      split at h
      · rename_i hle
        obtain ⟨b, o, vs, rfl, hr, hc⟩ := place_rep hm hp hl
        have hle' : i.size ≤ vs.length := hr.1 ▸ hle
        obtain ⟨r1, r2⟩ := run_loadAt (P := P) (hT.ti t i hi) hc hle'
        obtain ⟨p1, p2⟩ := pack_rep h (hr.take i.size)
        cases ha : i.agg with
        | true => exact ⟨_, r1 ha, p1 ha⟩
        | false =>
          obtain ⟨v, hv, hv'⟩ := p2 ha
          refine ⟨v, r2 v ha ?_, hv'⟩
          rw [List.getElem?_take] at hv
          split at hv
          · exact hv
          · simp at hv
      · simp at h
    · simp at h
  · simp at h

end Go.Proofs.Ytjfegdlgepbjoaa
