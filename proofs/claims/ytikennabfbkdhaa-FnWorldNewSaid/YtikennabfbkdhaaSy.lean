/- The evaluator S and what it says of functions: Sy. -/
import Derived.Test.YtikennabfbkdhaaSx
/- The evaluator S: regions whose order is drawn: the step, and all steps. -/
namespace Go.Proofs.Ytikennabfbkdhaa
open Go
set_option linter.unusedVariables false
set_option linter.unusedSimpArgs false
variable {P : Program} {T : Tab}
section
variable {c : Cx} {nt nl : Nat} {ol : List Oper} {ms : List Nat} {E : Nat → Env} {O : Nat → List SO} {X : Nat → SV} {fr : Fr} {g0 : Nat → Gh}
theorem load_same {os os2 : List SO} {t : Nat} {p x : SV} (hb : isBox p = true) (h : loadS T os t p = some x) (hk : ∀ q off, p = .ptr q off → ∀ l, os[q]? = some (.box l) → os2[q]? = some (.box l)) : loadS T os2 t p = some x := by
  have : placeCells os p = none ∨ placeCells os2 p = placeCells os p := by
    cases p with
    | ptr q off =>
      simp only [placeCells]
      cases hq : os[q]? with
      | none => exact .inl rfl
      | some o =>
        cases o with
        | box l => exact .inr (by rw [hk q off rfl l hq])
        | _ => exact .inl rfl
    | el y off => exact .inr rfl
    | undef => exact .inl rfl
    | _ => cases hb
  unfold loadS at h ⊢
  rcases this with e | e
  · rw [e] at h
    split at h <;> cases h
  · rw [e]; exact h
theorem cst_ne (v : Value) (q off : Nat) : cst v ≠ .ptr q off := by
  intro h
  unfold cst at h
  split at h
  · cases h
  · split at h <;> cases h
theorem okPair_EE {a b : Cls} (ha : a.isE = true) (hb : b.isE = true) : okPair a b = false := by
  cases a <;> cases b <;> first | rfl | (cases ha; done) | (cases hb; done)
theorem okPair_Er {a : Cls} (ha : a.isE = true) : okPair a .rd = false := by
  cases a <;> first | rfl | (cases ha; done)
theorem ds_step (hO : OpsOK P c) (tr : Tr c nt ol ms 0 E O X) (dr : Drawn c.T ol ms) (hms : ms = masks [] ol) {ops : Array Oper} (hops : ops.toList = ol) {D : Nat → Prop} {m : Nat} {g : Nat → Gh} {a : Act} {w : World}
    (hcl : ∀ j o, ol[j]? = some o → D j → ∀ e, e ∈ bindOn o → D e) (ds : DS c nt nl ol E O X fr g0 D m g a w) {j : Nat} {o : Oper} (hj : ol[j]? = some o) (hDj : ¬ D j) (hr : ∀ e, e ∈ bindOn o → D e)
    {K : Act → World → Prop} {Q : Exit → Act → World → Prop} (hK : ∀ a' w' m' g', DS c nt nl ol E O X fr g0 (fun i => D i ∨ i = j) m' g' a' w' → K a' w') : wpOp P ops Q j K a w := by
  have hjl : j < ol.length := lt_of_getElem? hj
  obtain ⟨hop, hE1, hdst, hck⟩ := tr.step j o (Nat.zero_le _) hj
  have hcl' : ∀ j' o', ol[j']? = some o' → (D j' ∨ j' = j) → ∀ e, e ∈ bindOn o' → (D e ∨ e = j) := by
    intro j' o' ho' hD' e he
    rcases hD' with hD' | rfl
    · exact .inl (hcl j' o' ho' hD' e he)
    · rw [hj] at ho'; obtain rfl := Option.some.inj ho'
      exact .inl (hr e he)
  have hbef' : ∀ i k, (D k ∨ k = j) → ordB ms i k = true → (D i ∨ i = j) := by
    intro i k hk hb
    unfold ordB at hb
    rw [hms] at hb
    exact masks_ok (D := fun i => D i ∨ i = j) hcl' ol [] rfl (fun j' _ e he => by simp at he) k hk i hb
  have hbefD : ∀ i k, D k → ordB ms i k = true → D i := by
    intro i k hk hb
    unfold ordB at hb
    rw [hms] at hb
    exact masks_ok (D := D) hcl ol [] rfl (fun j' _ e he => by simp at he) k hk i hb
  have hbef : ∀ i, i ≠ j → ordB ms i j = true → D i := fun i hi hb => (hbef' i j (.inr rfl) hb).resolve_right hi
  have hval : ∀ t, t ∈ tmpsOf ol o → RepV w (Bk fr (O m) g w) g (look t (E j)) (a.tmps.getD t undef) := by
    intro t ht
    by_cases hex : ∃ (i : Nat) (q : Oper), ol[i]? = some q ∧ q.dst = some t
    · obtain ⟨i, q, hi, hq⟩ := hex
      rcases dr.data i j q o t hi hj hq ht with ⟨hlt, hb⟩ | ⟨hlt, hb, -⟩
      · rw [E_new tr dr hi hq j hlt (by omega)]
        exact ds.new i q t hi hq (hbef i (by omega) hb)
      · rw [E_old' tr j (by omega) fun k p hk hp e => by
          have := dr.one k i p q t hp hi e hq
          omega]
        refine ds.old t fun k p hp e hD => ?_
        obtain rfl := dr.one k i p q t hp hi e hq
        exact hDj (hbefD j k hD hb)
    · have hno : ∀ (i : Nat) (q : Oper), ol[i]? = some q → q.dst ≠ some t := fun i q hi hq => hex ⟨i, q, hi, hq⟩
      rw [E_old tr hno j (by omega)]
      exact ds.old t fun i q hi hq => absurd hq (hno i q hi)
  let env' := killS (tmpsOf ol o) (E j)
  have hs : Slots w (Bk fr (O m) g w) g env' a.tmps := by
    intro t
    rcases look_kill_or (E j) t (tmpsOf ol o) with ⟨h1, h2⟩ | h2
    · show RepV _ _ _ (look t (killS (tmpsOf ol o) (E j))) _
      rw [h2]; exact hval t h1
    · show RepV _ _ _ (look t (killS (tmpsOf ol o) (E j))) _
      rw [h2]; exact .dead
  have hjo : ops[j]? = some o := by rw [← Array.getElem?_toList, hops]; exact hj
  have fin : ∀ (m' : Nat) (os1 : List SO), os1 = O m' → m' ≤ ol.length → op1 c ol (E j) (O m) o = some (X j, os1) →
      (∀ (i : Nat) (p : Oper), ol[i]? = some p → i < m' → (cls c.T p.op).isE = true → (D i ∨ i = j)) → (∀ (i : Nat) (p : Oper), ol[i]? = some p → m' ≤ i → (cls c.T p.op).isE = true → ¬ (D i ∨ i = j)) → wpOp P ops Q j K a w := by
    intro m' os1 hos hm' hop' hbl hab
    subst hos
    have h1 : op1 c ops.toList env' (O m) o = some (X j, O m') := by rw [hops]; show op1 c ol (killS (tmpsOf ol o) (E j)) (O m) o = _; rw [op1_kill]; exact hop'
    have hlen : (O m).length ≤ (O m').length := (op1_ok (P := P) hO (K := fun _ _ => True) (Q := Q) (j := j) ds.mem hs hjo h1 (fun _ _ _ => trivial)).1
    refine (op1_ok hO ds.mem hs hjo h1 ?_).2
    rintro v w' ⟨g', m1, gr, rp⟩
    have hd' : okDst a.tmps.size o.dst = true := okDst_le hdst ds.sz
    refine hK _ _ m' g' { mem := m1, old := fun t ht => ?_, new := fun i p t hi hp hD => ?_, sz := by rw [put_size]; exact ds.sz, df := by rw [put_defers]; exact ds.df, h0 := fun k hk hn => ?_, mn := hm', nlo := Nat.le_trans ds.nlo hlen, below := hbl, above := hab }
    · rw [getD_put _ _ _ _ hd', if_neg fun e => ht j o hj e (.inr rfl)]
      exact (ds.old t fun i p hi hp hD => ht i p hi hp (.inl hD)).grow gr
    · rw [getD_put _ _ _ _ hd']
      by_cases e : i = j
      · subst e
        rw [hj] at hi; obtain rfl := Option.some.inj hi
        rw [if_pos hp]; exact rp
      · rw [if_neg fun e' => e (dr.one i j p o t hi hj hp e')]
        exact (ds.new i p t hi hp (hD.resolve_right e)).grow gr
    · rw [gr.ext k (by rw [ds.h0 k hk hn]; exact hn), ds.h0 k hk hn]
  by_cases hE : (cls c.T o.op).isE = true
  · -- one that does something: it is its turn
    have hmj : m ≤ j := by
      rcases Nat.lt_or_ge j m with h | h
      · exact absurd (ds.below j o hj h hE) hDj
      · exact h
    have hno : ∀ (i : Nat) (p : Oper), m ≤ i → i < j → ol[i]? = some p → (cls c.T p.op).isE = false := by
      intro i p h1 h2 hi
      cases hp : (cls c.T p.op).isE with
      | false => rfl
      | true =>
        have hu : unord ms i j = false := by
          cases hu : unord ms i j with
          | false => rfl
          | true =>
            have := dr.pair i j p o hi hj hu
            rw [okPair_EE hp hE] at this; cases this
        exact absurd (hbef i (by omega) (unord_lt h2 hu)) (ds.above i p hi h1 hp)
    have hOj : O j = O m := O_const tr j hmj (by omega) hno
    refine fin (j + 1) _ rfl (by omega) (by rw [← hOj]; exact hop) ?_ ?_
    · intro i p hi hlt hp
      by_cases e : i = j
      · exact .inr e
      · rcases Nat.lt_or_ge i m with h | h
        · exact .inl (ds.below i p hi h hp)
        · have := hno i p h (by omega) hi
          rw [this] at hp; cases hp
    · intro i p hi hge hp hD
      rcases hD with hD | hD
      · exact ds.above i p hi (by omega) hp hD
      · omega
  · -- one that reads, or only reckons
    have hE : (cls c.T o.op).isE = false := by simpa using hE
    have keep : op1 c ol (E j) (O m) o = some (X j, O m) → wpOp P ops Q j K a w := fun h => by
      refine fin m _ rfl ds.mn h (fun i p hi hlt hp => .inl (ds.below i p hi hlt hp)) (fun i p hi hge hp hD => ?_)
      rcases hD with hD | rfl
      · exact ds.above i p hi hge hp hD
      · rw [hj] at hi; obtain rfl := Option.some.inj hi
        rw [hE] at hp; cases hp
    have hun1 : ∀ (i : Nat) (p : Oper), ol[i]? = some p → (cls c.T p.op).isE = true → m ≤ i → i < j → unord ms i j = true := by
      intro i p hi hp h1 h2
      cases hu : unord ms i j with
      | true => rfl
      | false => exact absurd (hbef i (by omega) (unord_lt h2 hu)) (ds.above i p hi h1 hp)
    have hun2 : ∀ (i : Nat) (p : Oper), ol[i]? = some p → (cls c.T p.op).isE = true → j < i → i < m → unord ms i j = true := by
      intro i p hi hp h1 h2
      cases hu : unord ms i j with
      | true => rfl
      | false =>
        rw [unord_comm] at hu
        exact absurd (hbefD j i (ds.below i p hi h2 hp) (unord_lt h1 hu)) hDj
    have hsame : (∀ (i : Nat) (p : Oper), ol[i]? = some p → (cls c.T p.op).isE = true → unord ms i j = false) → O m = O j := by
      intro hn
      rcases Nat.le_total m j with h | h
      · refine (O_const tr j h (by omega) fun i p h1 h2 hi => ?_).symm
        cases hp : (cls c.T p.op).isE with
        | false => rfl
        | true => have := hun1 i p hi hp h1 h2; rw [hn i p hi hp] at this; cases this
      · refine O_const tr m h ds.mn fun i p h1 h2 hi => ?_
        cases hp : (cls c.T p.op).isE with
        | false => rfl
        | true =>
          have hne : i ≠ j := fun e => by
            subst e
            rw [hj] at hi; obtain rfl := Option.some.inj hi
            rw [hE] at hp; cases hp
          have := hun2 i p hi hp (by omega) h2
          rw [hn i p hi hp] at this; cases this
    have hself : O (j + 1) = O j := notE_same hE hop
    cases hc : cls c.T o.op with
    | p => exact keep (op1_same hop fun h => ⟨hself, (p_any hc h).2 _⟩).2
    | rd =>
      refine keep ?_
      rw [hsame fun i p hi hp => ?_, ← hself]
      · rw [hself]; rw [hself] at hop; exact hop
      · cases hu : unord ms i j with
        | false => rfl
        | true =>
          have := dr.pair i j p o hi hj hu
          rw [hc] at this
          rw [okPair_Er hp] at this; cases this
    | ld =>
      obtain ⟨t, y, ho⟩ := ld_form hc
      cases hau : anyU c.T ms j 0 ol with
      | false =>
        refine keep ?_
        rw [hsame fun i p hi hp => by simpa using anyU_false hau hi hp]
        rw [hself] at hop; exact hop
      | true =>
        have hbx := hck.1 t y ho hau
        refine keep (op1_same hop fun h => ⟨hself, ?_⟩).2
        unfold opS at h ⊢
        simp only [ho] at h ⊢
        obtain ⟨h1, -⟩ := ret1_eq h
        rw [load_same (os2 := O m) hbx h1 ?_]
        · rfl
        · intro q off hy l hl
          have hyt : ∀ i, j < i → i ≤ ol.length → ev (E i) y = ev (E j) y := by
            intro i hji hil
            cases y with
            | tmp t' =>
              have ht' : t' ∈ tmpsOf ol o := by
                unfold tmpsOf
                refine List.mem_append.2 (.inl (List.mem_filterMap.2 ⟨.tmp t', ?_, rfl⟩))
                rw [ho]; simp [Op.operands]
              simp only [ev]
              by_cases hex : ∃ (i' : Nat) (q' : Oper), ol[i']? = some q' ∧ q'.dst = some t'
              · obtain ⟨i', q', hi', hq'⟩ := hex
                obtain ⟨hlt, -⟩ := (dr.data i' j q' o t' hi' hj hq' ht').resolve_right fun h => by rw [hc] at h; cases h.2.2
                rw [E_new tr dr hi' hq' i (by omega) hil, E_new tr dr hi' hq' j hlt (by omega)]
              · have hno : ∀ (i : Nat) (q : Oper), ol[i]? = some q → q.dst ≠ some t' := fun i q hi hq => hex ⟨i, q, hi, hq⟩
                rw [E_old tr hno i hil, E_old tr hno j (by omega)]
            | const v => rfl
            | func f => rfl
            | global g => rfl
          have hkp : ∀ i, i < ol.length → ((m ≤ i ∧ i < j) ∨ (j ≤ i ∧ i < m)) → KeptB q (O i) (O (i + 1)) := by
            intro i hil hcase
            have hi : ol[i]? = some ol[i] := List.getElem?_eq_getElem hil
            cases hp : (cls c.T ol[i].op).isE with
            | false => rw [O_same tr hil fun o' ho' => by rw [hi] at ho'; obtain rfl := Option.some.inj ho'; exact hp]; exact KeptB.refl _ _
            | true =>
              have hne : i ≠ j := fun e => by
                subst e
                rw [hj] at hi; have h5 := Option.some.inj hi
                rw [← h5, hE] at hp; cases hp
              have hu : unord ms i j = true := by
                rcases hcase with ⟨a1, a2⟩ | ⟨a1, a2⟩
                · exact hun1 i _ hi hp a1 a2
                · exact hun2 i _ hi hp (by omega) a2
              exact E_kept tr dr hi hj hp ho hu hy (fun hji => by rw [hyt i hji (by omega)]; exact hy)
          rcases Nat.le_total m j with h | h
          · have hk := O_kept tr j h (q := q) fun i a1 a2 => hkp i (by omega) (.inl ⟨a1, a2⟩)
            have hq : q < (O m).length := by
              rcases Nat.lt_or_ge q (O m).length with h | h
              · exact h
              · have hg := ds.mem.fresh q h
                have ht : ∃ t', y = .tmp t' := by
                  cases y with
                  | tmp t' => exact ⟨t', rfl⟩
                  | const v => exact absurd hy (cst_ne v q off)
                  | func f => cases hy
                  | global g => cases hy
                obtain ⟨t', rfl⟩ := ht
                have := hval t' (by
                  unfold tmpsOf
                  refine List.mem_append.2 (.inl (List.mem_filterMap.2 ⟨.tmp t', ?_, rfl⟩))
                  rw [ho]; simp [Op.operands])
                simp only [ev] at hy
                rw [hy] at this
                generalize a.tmps.getD t' undef = vv at this
                cases this with
                | ptr hp => rw [hg] at hp; cases hp
            exact (hk.2 hq l).2 hl
          · have hk := O_kept tr m h (q := q) fun i a1 a2 => hkp i (by have := ds.mn; omega) (.inr ⟨a1, a2⟩)
            exact (hk.2 (lt_of_getElem? hl) l).1 hl
    | ext => rw [hc] at hE; cases hE
    | eff => rw [hc] at hE; cases hE
    | call => rw [hc] at hE; cases hE
end
theorem mem_bindOn {o : Oper} {e : Nat} : e ∈ bindOn o ↔ ∃ d, d ∈ o.after ∧ Region.binds .any d = true ∧ d.on = e := by
  unfold bindOn
  simp [List.mem_map, List.mem_filter, and_assoc]
def VC (C : List (Nat × Nat)) (ops : Array Oper) : (Nat → Prop) → List Nat → Prop
  | D, [] => ∀ i, i < ops.size → D i
  | D, i :: rest => ¬ D i ∧ (∃ o, ops[i]? = some o ∧ ∀ e, e ∈ bindOn o → D e) ∧ (∀ p, p ∈ C → p.2 = i → D p.1) ∧ VC C ops (fun k => D k ∨ k = i) rest
theorem vc_add {C : List (Nat × Nat)} {ops : Array Oper} {i j : Nat} : ∀ (ord : List Nat) (D : Nat → Prop), D i → VC C ops D ord → VC (C ++ [(i, j)]) ops D ord
  | [], D, _, h => h
  | x :: rest, D, hi, ⟨h1, h2, h3, h4⟩ => ⟨h1, h2, fun p hp e => by
      rcases List.mem_append.1 hp with hp | hp
      · exact h3 p hp e
      · obtain rfl := List.mem_singleton.1 hp; exact hi, vc_add rest _ (.inl hi) h4⟩
theorem vc_split {C : List (Nat × Nat)} {ops : Array Oper} {i j : Nat} (hij : i ≠ j) : ∀ (ord : List Nat) (D : Nat → Prop), VC C ops D ord → VC (C ++ [(i, j)]) ops D ord ∨ VC (C ++ [(j, i)]) ops D ord
  | [], D, h => .inl h
  | x :: rest, D, ⟨h1, h2, h3, h4⟩ => by
    by_cases ei : x = i
    · subst ei
      refine .inl ⟨h1, h2, fun p hp e => ?_, vc_add rest _ (.inr rfl) h4⟩
      rcases List.mem_append.1 hp with hp | hp
      · exact h3 p hp e
      · obtain rfl := List.mem_singleton.1 hp; exact absurd e.symm hij
    · by_cases ej : x = j
      · subst ej
        refine .inr ⟨h1, h2, fun p hp e => ?_, vc_add rest _ (.inr rfl) h4⟩
        rcases List.mem_append.1 hp with hp | hp
        · exact h3 p hp e
        · obtain rfl := List.mem_singleton.1 hp; exact absurd e hij
      · rcases vc_split hij rest _ h4 with h | h
        · refine .inl ⟨h1, h2, fun p hp e => ?_, h⟩
          rcases List.mem_append.1 hp with hp | hp
          · exact h3 p hp e
          · obtain rfl := List.mem_singleton.1 hp; exact absurd e.symm ej
        · refine .inr ⟨h1, h2, fun p hp e => ?_, h⟩
          rcases List.mem_append.1 hp with hp | hp
          · exact h3 p hp e
          · obtain rfl := List.mem_singleton.1 hp; exact absurd e.symm ei
theorem vc_congr {C : List (Nat × Nat)} {ops : Array Oper} {D D' : Nat → Prop} {ord : List Nat} (h : ∀ i, D i ↔ D' i) (hv : VC C ops D ord) : VC C ops D' ord := by
  obtain rfl : D = D' := funext fun i => propext (h i)
  exact hv
theorem vc_lin {ops : Array Oper} (low : ∀ j o, ops[j]? = some o → ∀ e, e ∈ bindOn o → e < j) : ∀ (fuel t : Nat) (listed : Array Bool) (L : List Nat), listed.size = ops.size → (∀ i, i < ops.size → listed.getD i false = false → i ∈ L) →
    L.length ≤ fuel → VC [] ops (fun i => listed.getD i false = true) (Region.linearise.go .any ops fuel t listed []) := by
  have hgd : ∀ (listed : Array Bool), listed.size = ops.size → ∀ i, i < ops.size → listed.getD i true = listed.getD i false := by
    intro listed hsz i hi
    simp [Array.getD, show i < listed.size by omega]
  intro fuel
  induction fuel with
  | zero =>
    intro t listed L hsz hL hlen
    simp only [Region.linearise.go, List.reverse_nil]
    intro i hi
    cases hb : listed.getD i false with
    | true => rfl
    | false =>
      have := hL i hi hb
      have h0 : L = [] := List.length_eq_zero_iff.1 (by omega)
      rw [h0] at this; cases this
  | succ fuel ih =>
    intro t listed L hsz hL hlen
    simp only [Region.linearise.go]
    change VC [] ops _ (match (Region.ready .any ops listed)[t % (Region.ready .any ops listed).length]? with
      | some i => Region.linearise.go .any ops fuel (t / (Region.ready .any ops listed).length) (listed.setIfInBounds i true) [i]
      | none => [].reverse)
    cases hi : (Region.ready .any ops listed)[t % (Region.ready .any ops listed).length]? with
    | none =>
      have hnil : Region.ready .any ops listed = [] := by
        cases hr : Region.ready .any ops listed with
        | nil => rfl
        | cons x xs =>
          rw [hr] at hi
          rw [List.getElem?_eq_none_iff] at hi
          have := Nat.mod_lt t (y := (x :: xs).length) (by simp)
          omega
      intro i
      induction i using Nat.strongRecOn with
      | _ i ihi =>
        intro hi
        cases hb : listed.getD i false with
        | true => rfl
        | false =>
          have ho : ops[i]? = some ops[i] := Array.getElem?_eq_getElem hi
          have : i ∈ Region.ready .any ops listed := mem_ready.2 ⟨by rw [hgd listed hsz i hi]; exact hb, ops[i], ho, fun e he hbd => by
            have hlow := low i _ ho e.on (mem_bindOn.2 ⟨e, he, hbd, rfl⟩)
            exact ihi e.on hlow (by omega)⟩
          rw [hnil] at this; cases this
    | some i =>
      have him : i ∈ Region.ready .any ops listed := List.mem_of_getElem? hi
      obtain ⟨h1, o, ho, hall⟩ := mem_ready.1 him
      have hlt : i < ops.size := (Array.getElem?_eq_some_iff.1 ho).1
      have hDi : listed.getD i false = false := by rw [← hgd listed hsz i hlt]; exact h1
      have hset : ∀ k, (listed.setIfInBounds i true).getD k false = true ↔ (listed.getD k false = true ∨ k = i) := by
        intro k
        by_cases e : k = i
        · subst e
          simp [Array.getD, show k < listed.size by omega]
        · rw [getD_set_ne false (fun e' => e e'.symm)]; simp [e]
      show VC [] ops _ (Region.linearise.go .any ops fuel (t / (Region.ready .any ops listed).length) (listed.setIfInBounds i true) [i])
      rw [linearise_go_acc]
      refine ⟨by show ¬ (listed.getD i false = true); rw [hDi]; simp, ⟨o, ho, fun e he => ?_⟩, fun p hp => by simp at hp, ?_⟩
      · obtain ⟨d, hd1, hd2, rfl⟩ := mem_bindOn.1 he
        exact hall d hd1 hd2
      · refine vc_congr hset (ih _ (listed.setIfInBounds i true) (L.erase i) (by simpa using hsz) ?_ ?_)
        · intro k hk hb
          have hne : k ≠ i := fun e => by
            have := (hset k).2 (.inr e)
            rw [hb] at this; cases this
          rw [getD_set_ne false (fun e' => hne e'.symm)] at hb
          exact (List.mem_erase_of_ne hne).2 (hL k hk hb)
        · have := List.length_erase_of_mem (hL i hlt hDi)
          omega
theorem core_ok {c : Cx} (hO : OpsOK P c) {fr : Fr} {g0 : Nat → Gh} {nl nt : Nat} {k : Kt} {out : SV × List SO} {ops : Array Oper} {env : Env} {os : List SO} {a : Act} {w : World} (hi : Inv fr g0 nl nt env os a w)
    (h : runL c nt ops.toList env os k.n = some out) {ord : List Nat} (hv : VC [] ops (fun _ => False) ord) : wpOps P ops (PostK fr g0 nl nt k out) ord a w := by
  unfold runL at h
  split at h
  rotate_left
  · cases h
  rename_i hd
  have dr := drawn_of hd
  obtain ⟨E, O, X, e1, e2, tr, hf⟩ := tr_of ops.toList 0 env os rfl h
  have key : ∀ (ord : List Nat) (D : Nat → Prop) (a : Act) (w : World) (m : Nat) (g : Nat → Gh), (∀ j o, ops.toList[j]? = some o → D j → ∀ e, e ∈ bindOn o → D e) →
      DS c nt nl ops.toList E O X fr g0 D m g a w → VC [] ops D ord → wpOps P ops (PostK fr g0 nl nt k out) ord a w := by
    intro ord
    induction ord with
    | nil =>
      intro D a w m g hcl ds hall
      simp only [VC] at hall
      show PostK fr g0 nl nt k out .normal a w
      have hOn : O ops.toList.length = O m := O_const tr _ ds.mn (Nat.le_refl _) fun i p h1 h2 hi => by
        cases hp : (cls c.T p.op).isE with
        | false => rfl
        | true => exact absurd (hall i (by simpa using h2)) (ds.above i p hi h1 hp)
      have hf' : k.n (E ops.toList.length) (O ops.toList.length) = some out := by simpa using hf
      refine ⟨E ops.toList.length, O ops.toList.length, ⟨g, by rw [hOn]; exact ds.mem, fun t => ?_, ds.sz, ds.df, by rw [hOn]; exact ds.nlo, ds.h0⟩, hf'⟩
      rw [hOn]
      by_cases hex : ∃ (i : Nat) (q : Oper), ops.toList[i]? = some q ∧ q.dst = some t
      · obtain ⟨i, q, hi, hq⟩ := hex
        have hlt := lt_of_getElem? hi
        rw [E_new tr dr hi hq _ hlt (Nat.le_refl _)]
        exact ds.new i q t hi hq (hall i (by simpa using hlt))
      · have hno : ∀ (i : Nat) (q : Oper), ops.toList[i]? = some q → q.dst ≠ some t := fun i q hi hq => hex ⟨i, q, hi, hq⟩
        rw [E_old tr hno _ (Nat.le_refl _)]
        exact ds.old t fun i q hi hq => absurd hq (hno i q hi)
    | cons j rest ih =>
      intro D a w m g hcl ds hv
      obtain ⟨hDj, ⟨o, ho, hall⟩, -, hv'⟩ := hv
      have hol : ops.toList[j]? = some o := by rw [Array.getElem?_toList]; exact ho
      rw [wpOps_cons]
      refine ds_step hO tr dr rfl rfl hcl ds hol hDj hall fun a' w' m' g' ds' => ?_
      refine ih _ a' w' m' g' ?_ ds' hv'
      intro j' o' ho' hb e he
      rcases hb with hb | rfl
      · exact .inl (hcl j' o' ho' hb e he)
      · rw [hol] at ho'; obtain rfl := Option.some.inj ho'
        exact .inl (hall e he)
  obtain ⟨g, m, hs, ht, hdf, hl, h0⟩ := hi
  exact key ord (fun _ => False) a w 0 g (fun j o _ hD => hD.elim)
    { mem := by rw [e2]; exact m, old := fun t _ => by rw [e1, e2]; exact hs t, new := (fun i o t _ _ hD => hD.elim), sz := ht, df := hdf, h0 := h0, mn := Nat.zero_le _, nlo := by rw [e2]; exact hl,
      below := (fun i o _ h => by omega), above := fun i o _ _ _ hD => hD } hv
theorem posOf_get : ∀ (σ : List Nat) (i : Nat), i ∈ σ → σ[posOf i σ]? = some i
  | [], i, h => by cases h
  | x :: xs, i, h => by
    unfold posOf
    split
    · rename_i hb; rw [Nat.eq_of_beq_eq_true hb]; rfl
    · rename_i hb
      rcases List.mem_cons.1 h with rfl | h
      · simp at hb
      · rw [List.getElem?_cons_succ]; exact posOf_get xs i h
theorem nodupB_spec : ∀ (l : List Nat), nodupB l = true → l.Nodup
  | [], _ => List.nodup_nil
  | x :: xs, h => by
    simp only [nodupB, Bool.and_eq_true, Bool.not_eq_true', List.contains_eq_mem] at h
    exact List.nodup_cons.2 ⟨by simpa using h.1, nodupB_spec xs h.2⟩
structure PermOK (σ : List Nat) (ops : Array Oper) : Prop where
  len : σ.length = ops.size
  nd : σ.Nodup
  lt : ∀ i, i ∈ σ → i < ops.size
  all : ∀ i, i < ops.size → i ∈ σ
  gd : ∀ (i : Nat) (o : Oper) (g : Nat × Bool), ops[i]? = some o → o.guard = some g → g.1 < ops.size
theorem perm_of {σ : List Nat} {ops : Array Oper} (h : permOk σ ops.toList = true) : PermOK σ ops := by
  unfold permOk at h
  simp only [Bool.and_eq_true, List.all_eq_true] at h
  obtain ⟨⟨⟨⟨h1, h2⟩, h3⟩, h5⟩, h4⟩ := h
  have hl : σ.length = ops.size := by simpa using Nat.eq_of_beq_eq_true h1
  have hn := nodupB_spec σ h2
  have hlt : ∀ i, i ∈ σ → i < ops.size := fun i hi => by
    have := h3 i hi
    simpa [Nat.blt_eq] using this
  refine ⟨hl, hn, hlt, fun i hi => ?_, fun i o g ho hg => ?_⟩
  · have := h5 i (List.mem_range.2 (by simpa using hi))
    simpa using this
  · have hm : o ∈ ops.toList := List.mem_of_getElem? (by rw [Array.getElem?_toList]; exact ho)
    have := h4 o hm
    rw [hg] at this
    simpa [Nat.blt_eq] using this
theorem filterMap_get {α β : Type} (f : α → Option β) (g : α → β) : ∀ (l : List α), (∀ x, x ∈ l → f x = some (g x)) → l.filterMap f = l.map g
  | [], _ => rfl
  | x :: xs, h => by
    rw [List.filterMap_cons, h x (by simp), List.map_cons, filterMap_get f g xs fun y hy => h y (by simp [hy])]
theorem permOps_get {σ : List Nat} {ops : Array Oper} {C : List (Nat × Nat)} (hp : PermOK σ ops) {i : Nat} {o : Oper} (ho : ops[i]? = some o) : (permOps C σ ops.toList).toArray[posOf i σ]? = some (permOp C σ i o) := by
  have hi : i < ops.size := (Array.getElem?_eq_some_iff.1 ho).1
  have e : permOps C σ ops.toList = σ.map fun i => permOp C σ i (ops.getD i default) := by
    unfold permOps
    refine filterMap_get _ _ σ fun x hx => ?_
    have hx' := hp.lt x hx
    have : ops.toList[x]? = some ops[x] := by rw [Array.getElem?_toList]; exact Array.getElem?_eq_getElem hx'
    simp [this, Array.getD, hx']
  rw [e]
  have := posOf_get σ i (hp.all i hi)
  simp only [List.getElem?_toArray, List.getElem?_map, this, Option.map_some, Option.some.injEq]
  have h2 : ops.getD i default = o := by
    rw [Array.getElem?_eq_getElem hi] at ho
    simp [Array.getD, hi, Option.some.inj ho]
  rw [h2]
theorem permOps_size {σ : List Nat} {ops : Array Oper} {C : List (Nat × Nat)} (hp : PermOK σ ops) : (permOps C σ ops.toList).toArray.size = σ.length := by
  have e : permOps C σ ops.toList = σ.map fun i => permOp C σ i (ops.getD i default) := by
    unfold permOps
    refine filterMap_get _ _ σ fun x hx => ?_
    have hx' := hp.lt x hx
    have : ops.toList[x]? = some ops[x] := by rw [Array.getElem?_toList]; exact Array.getElem?_eq_getElem hx'
    simp [this, Array.getD, hx']
  rw [e]; simp
theorem bindOn_perm {C : List (Nat × Nat)} {σ : List Nat} {i : Nat} {o : Oper} {e : Nat} (h : e ∈ bindOn (permOp C σ i o)) : ∃ e0, e = posOf e0 σ ∧ (e0 ∈ bindOn o ∨ (e0, i) ∈ C) := by
  unfold bindOn permOp at h
  simp only [List.mem_map, List.mem_filter] at h
  obtain ⟨d, ⟨hd, -⟩, rfl⟩ := h
  simp only [List.mem_map, List.mem_append, List.mem_filterMap] at hd
  obtain ⟨e0, he, rfl⟩ := hd
  refine ⟨e0, rfl, ?_⟩
  rcases he with he | ⟨p, hp, hpe⟩
  · exact .inl he
  · split at hpe
    · rename_i hb
      have := Nat.eq_of_beq_eq_true hb
      cases hpe
      obtain ⟨p1, p2⟩ := p
      obtain rfl : p2 = i := this
      exact .inr hp
    · cases hpe
theorem nd_inj : ∀ {l : List Nat}, l.Nodup → ∀ {i j : Nat} {hi : i < l.length} {hj : j < l.length}, l[i] = l[j] → i = j
  | [], _, i, j, hi, hj, e => by simp at hi
  | x :: xs, hn, i, j, hi, hj, e => by
    obtain ⟨h1, h2⟩ := List.nodup_cons.1 hn
    cases i with
    | zero =>
      cases j with
      | zero => rfl
      | succ j =>
        simp only [List.getElem_cons_zero, List.getElem_cons_succ] at e
        exact absurd (e ▸ List.getElem_mem _) h1
    | succ i =>
      cases j with
      | zero =>
        simp only [List.getElem_cons_zero, List.getElem_cons_succ] at e
        exact absurd (e ▸ List.getElem_mem _) h1
      | succ j =>
        simp only [List.getElem_cons_succ] at e
        rw [nd_inj h2 e]
theorem vc_perm {σ : List Nat} {ops : Array Oper} {C : List (Nat × Nat)} (hp : PermOK σ ops) : ∀ (ord : List Nat) (D : Nat → Prop), (∀ i, D i → i < ops.size) → VC C ops D ord →
    VC [] (permOps C σ ops.toList).toArray (fun p => ∃ i, D i ∧ posOf i σ = p) (ord.map fun i => posOf i σ)
  | [], D, hD, h => by
    intro p hps
    rw [permOps_size hp] at hps
    have hm : σ[p] ∈ σ := List.getElem_mem hps
    refine ⟨σ[p], h _ (hp.lt _ hm), ?_⟩
    have h1 := posOf_get σ σ[p] hm
    have hlt := lt_of_getElem? h1
    rw [List.getElem?_eq_getElem hlt] at h1
    exact nd_inj hp.nd (Option.some.inj h1)
  | i :: rest, D, hD, ⟨h1, ⟨o, ho, hall⟩, h3, h4⟩ => by
    have hi : i < ops.size := (Array.getElem?_eq_some_iff.1 ho).1
    have inj : ∀ x y, x < ops.size → y < ops.size → posOf x σ = posOf y σ → x = y := fun x y hx hy e => by
      have a1 := posOf_get σ x (hp.all x hx)
      have a2 := posOf_get σ y (hp.all y hy)
      rw [e, a2] at a1
      exact (Option.some.inj a1).symm
    refine ⟨?_, ⟨_, permOps_get hp ho, fun e he => ?_⟩, fun p hp => by simp at hp, ?_⟩
    · rintro ⟨x, hx, e⟩
      exact h1 (inj x i (hD x hx) hi e ▸ hx)
    · obtain ⟨e0, rfl, he2⟩ := bindOn_perm he
      refine he2.elim (fun he => ⟨e0, hall e0 he, rfl⟩) (fun he => ⟨e0, h3 (e0, i) he rfl, rfl⟩)
    · refine vc_congr (fun p => ?_) (vc_perm hp rest _ (fun x hx => hx.elim (hD x) fun e => e ▸ hi) h4)
      constructor
      · rintro ⟨x, hx | rfl, e⟩
        · exact .inl ⟨x, hx, e⟩
        · exact .inr e.symm
      · rintro (⟨x, hx, e⟩ | rfl)
        · exact ⟨x, .inl hx, e⟩
        · exact ⟨i, .inr rfl, rfl⟩
theorem wanted_perm {σ : List Nat} {ops : Array Oper} {C : List (Nat × Nat)} (hp : PermOK σ ops) {i : Nat} {o : Oper} (ho : ops[i]? = some o) (tmps : Array Value) :
    Region.wanted (permOp C σ i o) (yielded (permOps C σ ops.toList).toArray tmps) = Region.wanted o (yielded ops tmps) := by
  unfold Region.wanted
  cases hg : o.guard with
  | none => simp [permOp, hg]
  | some g =>
    have hlt := hp.gd i o g ho hg
    have e : (permOp C σ i o).guard = some (posOf g.1 σ, g.2) := by simp [permOp, hg]
    have hy : yielded (permOps C σ ops.toList).toArray tmps (posOf g.1 σ) = yielded ops tmps g.1 := by
      unfold yielded
      rw [permOps_get hp (Array.getElem?_eq_getElem hlt), Array.getElem?_eq_getElem hlt]
      rfl
    rw [e]
    simp only [hy]
theorem wp_perm {σ : List Nat} {ops : Array Oper} {C : List (Nat × Nat)} (hp : PermOK σ ops) {Q : Exit → Act → World → Prop} : ∀ (ord : List Nat) (D : Nat → Prop) (a : Act) (w : World), VC C ops D ord →
    wpOps P (permOps C σ ops.toList).toArray Q (ord.map fun i => posOf i σ) a w → wpOps P ops Q ord a w
  | [], D, a, w, _, h => h
  | i :: rest, D, a, w, ⟨_, ⟨o, ho, _⟩, _, h4⟩, h => by
    rw [List.map_cons, wpOps_cons] at h
    rw [wpOps_cons]
    refine wpOp_mono (K := wpOps P (permOps C σ ops.toList).toArray Q (rest.map fun i => posOf i σ)) (fun a' w' h' => wp_perm hp rest _ a' w' h4 h') ?_
    unfold wpOp at h ⊢
    rw [permOps_get hp ho] at h
    rw [ho]
    simp only [wanted_perm hp ho] at h ⊢
    exact h
theorem both_some {x y : Out} {r : SV × List SO} (h : both x y = some r) : x = some r ∧ y = some r := by
  unfold both at h
  split at h
  · rename_i e; exact ⟨h, e ▸ h⟩
  · cases h
theorem tree_ok {c : Cx} (hO : OpsOK P c) {fr : Fr} {g0 : Nat → Gh} {nl nt : Nat} {k : Kt} {out : SV × List SO} {ops : Array Oper} {env : Env} {os : List SO} {a : Act} {w : World} (hi : Inv fr g0 nl nt env os a w) {ord : List Nat} :
    ∀ (t : DT) (C : List (Nat × Nat)), runT c nt ops.toList env os k.n t C = some out → VC C ops (fun _ => False) ord → wpOps P ops (PostK fr g0 nl nt k out) ord a w
  | .leaf σ, C, h, hv => by
    simp only [runT] at h
    split at h
    · rename_i hp
      have hp := perm_of hp
      refine wp_perm hp ord _ a w hv (core_ok hO hi h (vc_congr (fun p => ?_) (vc_perm hp ord _ (fun _ h => h.elim) hv)))
      constructor
      · rintro ⟨_, h, _⟩; exact h
      · exact False.elim
    · cases h
  | .split i j x y, C, h, hv => by
    simp only [runT] at h
    split at h
    · cases h
    · rename_i hb
      obtain ⟨h1, h2⟩ := both_some h
      rcases vc_split (i := i) (j := j) (fun e => by subst e; simp at hb) ord _ hv with hv | hv
      · exact tree_ok hO hi x _ h1 hv
      · exact tree_ok hO hi y _ h2 hv
theorem draw_ok {c : Cx} (hO : OpsOK P c) (hmix : P.follows .mixedOrders = true) : DrawOK P c := by
  intro fr g0 nl nt k out d ops env os a w t hi h
  simp only [Region.schedule, hmix, Bool.true_or, if_true]
  have hrep : ∀ i, (Array.replicate ops.size false).getD i false = false := fun i => by
    simp only [Array.getD]; split <;> simp
  have lin : (∀ j o, ops[j]? = some o → ∀ e, e ∈ bindOn o → e < j) → VC [] ops (fun _ => False) (Region.linearise.go .any ops ops.size t (Array.replicate ops.size false) []) := fun low =>
    vc_congr (fun i => by rw [hrep]; simp) (vc_lin low ops.size t (Array.replicate ops.size false) (List.range ops.size) (by simp) (fun i hi _ => List.mem_range.2 hi) (by simp))
  unfold runDraw at h
  split at h
  · refine core_ok hO hi h (lin fun j o ho e he => ?_)
    unfold runL at h
    split at h
    · rename_i hd
      exact (drawn_of hd).low j o (by rw [Array.getElem?_toList]; exact ho) e he
    · cases h
  · rename_i tr
    split at h
    · rename_i hl
      refine tree_ok hO hi tr [] h (lin fun j o ho e he => ?_)
      have := allI_spec hl j o (by rw [Array.getElem?_toList]; exact ho)
      have := List.all_eq_true.1 this e he
      simpa [Nat.blt_eq] using this
    · cases h
end Go.Proofs.Ytikennabfbkdhaa
