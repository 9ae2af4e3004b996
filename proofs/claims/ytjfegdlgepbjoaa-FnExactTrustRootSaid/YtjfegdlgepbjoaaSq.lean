/- The evaluator S: behind a call. -/
import Derived.Test.YtjfegdlgepbjoaaSp
namespace Go.Proofs.Ytjfegdlgepbjoaa
open Go
set_option linter.unusedVariables false
set_option linter.unusedSimpArgs false
variable {P : Program} {T : Tab}

/-! ### what does not hang on memory that is read -/
theorem flat1 {w : World} {B B' : Nat → Prop} {g : Nat → Gh} {x : SV} {v : Value} (h : RepV w B g x v) (hx : hasSl1 x = false) : RepV w B' g x v := by
  cases h <;> simp [hasSl1] at hx
  · exact .v (by assumption)
  · exact .dead
  · exact .osl0 (by assumption)
  · exact .osl (by assumption)
  · exact .ptr (by assumption)
  · rename_i f caps vs h1 h2
    cases caps with
    | nil =>
      obtain rfl : vs = [] := by cases vs <;> simp at h1 ⊢
      exact RepV.fn (caps := []) (vs := []) rfl (fun i x v h => by simp at h)
    | cons => simp [hasSl1] at hx

theorem flatL {w : World} {B B' : Nat → Prop} {g : Nat → Gh} {l : List SV} {vs : List Value} (h : RepL w B g l vs) (hx : l.any hasSl1 = false) : RepL w B' g l vs :=
  ⟨h.1, fun i x v h1 h2 => flat1 (h.2 i x v h1 h2) (by
    have := List.any_eq_false.1 hx x (List.mem_of_getElem? h1)
    simpa using this)⟩

theorem flat2 {w : World} {B B' : Nat → Prop} {g : Nat → Gh} {x : SV} {v : Value} (h : RepV w B g x v) (hx : x.cells.any hasSl1 = false) : RepV w B' g x v := by
  by_cases ha : ∃ l, x = .ag l
  · obtain ⟨l, rfl⟩ := ha
    cases h with
    | ag h1 h2 h3 =>
      have := flatL (B' := B') ⟨h1, h2⟩ hx
      exact .ag this.1 this.2 h3
  · have e : x.cells = [x] := by cases x <;> first | rfl | exact absurd ⟨_, rfl⟩ ha
    rw [e] at hx
    exact flat1 h (by simpa using hx)

theorem flat3 {w : World} {B B' : Nat → Prop} {g : Nat → Gh} {x : SV} {v : Value} (h : RepV w B g x v) (hx : hasSl3 x = false) : RepV w B' g x v := by
  by_cases ha : ∃ l, x = .tup l
  · obtain ⟨l, rfl⟩ := ha
    cases h with
    | tup h1 h2 =>
      refine .tup h1 fun i x v hx' hv => flat2 (h2 i x v hx' hv) ?_
      have := List.any_eq_false.1 hx x (List.mem_of_getElem? hx')
      simpa using this
  · have e : hasSl3 x = x.cells.any hasSl1 := by cases x <;> first | rfl | exact absurd ⟨_, rfl⟩ ha
    rw [e] at hx
    exact flat2 h hx

theorem flatE {w : World} {B B' : Nat → Prop} {g : Nat → Gh} {x : SV} {v : Value} (h : RepV w B g x v) (hx : flatSV x = true) : RepV w B' g x v := by
  refine flat2 h ?_
  rw [List.any_eq_false]
  intro y hy
  have := List.all_eq_true.1 hx y hy
  cases y <;> simp_all [hasSl1]

theorem ObjOK.flat {w : World} {B B' : Nat → Prop} {g : Nat → Gh} {j : Nat} {o : SO} (h : ObjOK w B g j o) (hf : o.hasSl = false) : ObjOK w B' g j o := by
  cases o with
  | dead => trivial
  | frz sz l => simp [SO.hasSl] at hf
  | arr lt sz l =>
    rcases h with h | ⟨b, cap, vs, h1, h2, h3, h4⟩
    · exact .inl h
    · refine .inr ⟨b, cap, vs, h1, h2, ⟨h3.1, fun i x v hx hv => flatE (h3.2 i x v hx hv) ?_⟩, h4⟩
      simp only [SO.hasSl, Bool.not_eq_false'] at hf
      exact List.all_eq_true.1 hf x (List.mem_of_getElem? hx)
  | box l =>
    obtain ⟨b, vs, h1, h2, h3⟩ := h
    exact ⟨b, vs, h1, flatL h2 hf, h3⟩

/-! ### what comes back -/
def Kin (o o0 : SO) : Prop := (∀ b sz l, o0 = .arr b sz l → ∃ b' l', o = .arr b' sz l') ∧ ∀ l, o0 = .box l → ∃ l', o = .box l'

def mix (β : Nat → Option Nat) (o o0 : SO) : SO :=
  match o, o0 with
  | .arr _ sz l, .arr b _ _ => .arr b sz l
  | .box l, .box _ => .box (l.map (ren1 β))
  | _, o0 => o0

theorem giveBack_of (β : Nat → Option Nat) : ∀ (keep : List Nat) (los os os1 : List SO), nodupB keep = true → giveBack β keep los os = some os1 →
    os1.length = os.length ∧ (∀ j, (∀ i : Nat, keep[i]? ≠ some j) → os1[j]? = os[j]?) ∧
    ∀ (i j : Nat), keep[i]? = some j → ∃ o o0, los[i]? = some o ∧ os[j]? = some o0 ∧ os1[j]? = some (mix β o o0) ∧ o.isLive = o0.isLive ∧ o0.there = true ∧
      Kin o o0 ∧ (∀ sz l, o = .frz sz l → ∃ sz' l', o0 = .frz sz' l') := by
  intro keep
  induction keep with
  | nil =>
    intro los os os1 _ h
    simp only [giveBack, Option.some.injEq] at h
    subst h
    exact ⟨rfl, fun _ _ => rfl, fun i j h => by simp at h⟩
  | cons j js ih =>
    intro los os os1 hn h
    simp only [nodupB, Bool.and_eq_true, Bool.not_eq_true'] at hn
    obtain ⟨hn1, hn2⟩ := hn
    have hnot : ∀ i : Nat, js[i]? ≠ some j := fun i h => by
      have : js.contains j = true := by simpa using List.mem_of_getElem? h
      rw [this] at hn1; cases hn1
    cases los with
    | nil => simp [giveBack] at h
    | cons o los =>
      simp only [giveBack] at h
      have core : ∀ (o0 x : SO), os[j]? = some o0 → giveBack β js los (os.set j x) = some os1 → x = mix β o o0 → o.isLive = o0.isLive → o0.there = true →
          Kin o o0 → (∀ sz l, o = .frz sz l → ∃ sz' l', o0 = .frz sz' l') →
          os1.length = os.length ∧ (∀ k, (∀ i : Nat, (j :: js)[i]? ≠ some k) → os1[k]? = os[k]?) ∧
          ∀ (i k : Nat), (j :: js)[i]? = some k → ∃ o' o0', (o :: los)[i]? = some o' ∧ os[k]? = some o0' ∧ os1[k]? = some (mix β o' o0') ∧ o'.isLive = o0'.isLive ∧ o0'.there = true ∧
            Kin o' o0' ∧ (∀ sz l, o' = .frz sz l → ∃ sz' l', o0' = .frz sz' l') := by
        intro o0 x hj hg hx hl ht hz hf
        obtain ⟨h1, h2, h3⟩ := ih los _ os1 hn2 hg
        have hset : ∀ k, k ≠ j → (os.set j x)[k]? = os[k]? := fun k hk => by rw [List.getElem?_set, if_neg (fun e => hk e.symm)]
        refine ⟨by simpa using h1, fun k hk => ?_, fun i k hi => ?_⟩
        · have hkj : k ≠ j := fun e => by subst e; exact hk 0 rfl
          rw [h2 k (fun i hi => hk (i + 1) (by simpa using hi)), hset k hkj]
        · cases i with
          | zero =>
            simp at hi
            subst hi
            refine ⟨o, o0, rfl, hj, ?_, hl, ht, hz, hf⟩
            rw [h2 j hnot, ← hx, List.getElem?_set, if_pos rfl]
            first | rfl | rw [if_pos (lt_of_getElem? hj)]
          | succ i =>
            have hi' : js[i]? = some k := by simpa using hi
            have hkj : k ≠ j := fun e => by subst e; exact hnot i hi'
            obtain ⟨o', o0', a1, a2, a3⟩ := h3 i k hi'
            exact ⟨o', o0', by simpa using a1, by rw [← hset k hkj]; exact a2, a3⟩
      split at h
      · rename_i bb sz l b sz' l' hj
        split at h
        · rename_i e
          subst e
          exact core _ _ hj h rfl rfl rfl ⟨(fun b sz l e => by cases e; exact ⟨_, _, rfl⟩), fun l e => by cases e⟩ (fun sz l e => by cases e)
        · simp at h
      · rename_i l l' hj
        exact core _ _ hj h rfl rfl rfl ⟨(fun b sz l e => by cases e), fun l e => by cases e; exact ⟨_, rfl⟩⟩ (fun sz l e => by cases e)
      · rename_i sz l sz' l' hj
        exact core _ (.frz sz' l') hj (by rw [set_same hj]; exact h) rfl rfl rfl ⟨(fun b sz l e => by cases e), fun l e => by cases e⟩ (fun sz l e => ⟨_, _, rfl⟩)
      · simp at h

theorem freeze_of {fr : Fr} {g : Nat → Gh} {w : World} : ∀ (js : List Nat) {os os1 : List SO}, Mem fr os g w → freeze js os = some os1 →
    Mem fr os1 g w ∧ Grow fr os g w os1 g w ∧ os1.length = os.length ∧ (∀ j, j ∉ js → os1[j]? = os[j]?) ∧ ∀ j, j ∈ js → ∃ sz l, os1[j]? = some (.frz sz l) := by
  intro js
  induction js with
  | nil =>
    intro os os1 hm h
    simp only [freeze, Option.some.injEq] at h
    subst h
    exact ⟨hm, Grow.refl _ _ _ _, rfl, fun _ _ => rfl, fun j h => by simp at h⟩
  | cons j js ih =>
    intro os os1 hm h
    simp only [freeze] at h
    split at h
    · rename_i sz l hj
      have hm1 := freeze_mem hm hj
      obtain ⟨a1, a2, a3, a4, a5⟩ := ih hm1 h
      refine ⟨a1, (freeze_chg hm hj).grow.trans a2, by simpa using a3, fun k hk => ?_, fun k hk => ?_⟩
      · simp at hk
        rw [a4 k hk.2, List.getElem?_set, if_neg (fun e => hk.1 e.symm)]
      · by_cases hjs : k ∈ js
        · exact a5 k hjs
        · have : k = j := by simpa [hjs] using hk
          subst this
          refine ⟨sz, l, ?_⟩
          rw [a4 k hjs, List.getElem?_set, if_pos rfl]
          first | rfl | rw [if_pos (lt_of_getElem? hj)]
    · rename_i sz l hj
      obtain ⟨a1, a2, a3, a4, a5⟩ := ih hm h
      refine ⟨a1, a2, a3, fun k hk => a4 k (fun hh => hk (by simp [hh])), fun k hk => ?_⟩
      by_cases hjs : k ∈ js
      · exact a5 k hjs
      · have : k = j := by simpa [hjs] using hk
        subst this
        exact ⟨sz, l, by rw [a4 k hjs]; exact hj⟩
    · simp at h

/-- The names' meaning behind the call. -/
def gB (g g' : Nat → Gh) (n m : Nat) (j : Nat) : Gh := if j < n then g j else g' (m + (j - n))

/-- Behind a call: os0: the objects as they stood (with what is read from now on), los: what came back. -/
theorem back_mem {fr : Fr} {os os0 os1 los : List SO} {g g' : Nat → Gh} {w w' : World} {keep : List Nat} {A : Nat → Prop} (hm : Mem fr os g w) (hn : nodupB keep = true)
    (hm0 : Mem fr os0 g w) (hlen : os0.length = os.length) (hsame : ∀ i j : Nat, keep[i]? = some j → os0[j]? = os[j]?) (hth : (gcO keep os).all SO.there = true)
    (hmc : Mem (frC w A keep os g) los g' w') (hg' : ∀ i, i < keep.length → gk g keep i ≠ .no → g' i = gk g keep i) (hll : keep.length ≤ los.length)
    (hb : giveBack (backName keep os.length) keep los os0 = some os1) (hown : (los.drop keep.length).all SO.own = true)
    (hsl : (∀ b, b < w.heap.size → A b → (b < fr.N → fr.A b) ∧ ¬ live os0 g b) ∨ los.any SO.hasSl = false) :
    Mem fr (os1 ++ (los.drop keep.length).map (SO.ren (backName keep os.length))) (gB g g' os.length keep.length) w' ∧
    Grow fr os0 g w (os1 ++ (los.drop keep.length).map (SO.ren (backName keep os.length))) (gB g g' os.length keep.length) w' ∧
    (∀ x v, RepV w' (Bk (frC w A keep os g) los g' w') g' x v → ((∀ b, b < w.heap.size → A b → (b < fr.N → fr.A b) ∧ ¬ live os0 g b) ∨ hasSl3 x = false) →
      RepV w' (Bk fr (os1 ++ (los.drop keep.length).map (SO.ren (backName keep os.length))) (gB g g' os.length keep.length) w') (gB g g' os.length keep.length) (ren3 (backName keep os.length) x) v) := by
  obtain ⟨b1, b2, b3⟩ := giveBack_of _ keep los os0 os1 hn hb
  -- objects that are lent are there
  have hthere : ∀ i j : Nat, keep[i]? = some j → j < os.length ∧ ∃ o, os[j]? = some o ∧ o.there = true := by
    intro i j hi
    have hgo : (gcO keep os)[i]? = some ((os.getD j .dead).ren (place keep)) := by unfold gcO; rw [List.getElem?_map, hi]; rfl
    have := List.all_eq_true.1 hth _ (List.mem_of_getElem? hgo)
    have hd : os.getD j .dead ≠ .dead := fun e => by rw [e] at this; cases this
    have hj := getD_some rfl hd
    refine ⟨lt_of_getElem? hj, _, hj, ?_⟩
    cases h : os.getD j .dead <;> rw [h] at this <;> first | rfl | exact absurd h hd
  have hgne : ∀ i j : Nat, keep[i]? = some j → g j ≠ .no := by
    intro i j hi
    obtain ⟨_, o, ho, ht⟩ := hthere i j hi
    have hok := hm.objs j o ho
    cases o with
    | dead => cases ht
    | frz sz l => rcases hok with ⟨_, h⟩ | ⟨b, cap, vs, h, _⟩ <;> rw [h] <;> simp
    | arr lt sz l => rcases hok with ⟨_, h⟩ | ⟨b, cap, vs, h, _⟩ <;> rw [h] <;> simp
    | box l => obtain ⟨b, vs, h, _⟩ := hok; rw [h]; simp
  have hgk : ∀ i j : Nat, keep[i]? = some j → g' i = g j := by
    intro i j hi
    have e : gk g keep i = g j := by unfold gk; rw [hi]
    rw [hg' i (lt_of_getElem? hi) (by rw [e]; exact hgne i j hi), e]
  have hG1 : ∀ j, j < os.length → gB g g' os.length keep.length j = g j := fun j hj => by unfold gB; rw [if_pos hj]
  have hG2 : ∀ k, gB g g' os.length keep.length (os.length + k) = g' (keep.length + k) := fun k => by unfold gB; rw [if_neg (by omega)]; congr 1; omega
  have hGβ : ∀ i j, backName keep os.length i = some j → gB g g' os.length keep.length j = g' i := by
    intro i j h
    unfold backName at h
    split at h
    · rename_i hi
      rw [hG1 j (hthere i j h).1, hgk i j h]
    · rename_i hi
      obtain rfl := Option.some.inj h
      rw [hG2]; congr 1; omega
  have hlen1 : os1.length = os.length := by rw [b1, hlen]
  -- where an object of the new list comes from
  have src : ∀ (k : Nat) (o : SO), (os1 ++ (los.drop keep.length).map (SO.ren (backName keep os.length)))[k]? = some o →
      (k < os.length ∧ (∀ i : Nat, keep[i]? ≠ some k) ∧ os0[k]? = some o) ∨
      (∃ (i : Nat) (o' o0 : SO), keep[i]? = some k ∧ los[i]? = some o' ∧ os0[k]? = some o0 ∧ o = mix (backName keep os.length) o' o0 ∧ o'.isLive = o0.isLive ∧ o0.there = true ∧ Kin o' o0 ∧ (∀ sz l, o' = .frz sz l → ∃ sz' l', o0 = .frz sz' l')) ∨
      (∃ (q : Nat) (o' : SO), k = os.length + q ∧ los[keep.length + q]? = some o' ∧ o = o'.ren (backName keep os.length) ∧ o'.own = true) := by
    intro k o hk
    rcases Nat.lt_or_ge k os1.length with h | h
    · rw [List.getElem?_append_left h] at hk
      by_cases hin : ∃ i : Nat, keep[i]? = some k
      · obtain ⟨i, hi⟩ := hin
        obtain ⟨o', o0, a1, a2, a3, a4, a5, a6, a7⟩ := b3 i k hi
        rw [a3] at hk
        exact .inr (.inl ⟨i, o', o0, hi, a1, a2, (Option.some.inj hk).symm, a4, a5, a6, a7⟩)
      · have hin' : ∀ i : Nat, keep[i]? ≠ some k := fun i hi => hin ⟨i, hi⟩
        rw [b2 k hin'] at hk
        exact .inl ⟨by omega, hin', hk⟩
    · rw [List.getElem?_append_right h, List.getElem?_map] at hk
      obtain ⟨o', ho', rfl⟩ := Option.map_eq_some_iff.1 hk
      have how := List.all_eq_true.1 hown o' (List.mem_of_getElem? ho')
      rw [List.getElem?_drop] at ho'
      exact .inr (.inr ⟨k - os1.length, o', by omega, ho', rfl, how⟩)
  -- blocks that are lent
  have hLlive : ∀ b, live (lent keep os) (gk g keep) b → ∃ (i j : Nat) (o : SO), keep[i]? = some j ∧ os0[j]? = some o ∧ o.isLive = true ∧ (g j).block? = some b := by
    rintro b ⟨i, o, hi, hl, hbl⟩
    obtain ⟨j, o', hj, ho, hl', hb'⟩ := lent_live hi hl hbl
    exact ⟨i, j, o', hj, by rw [hsame i j hj]; exact ho, hl', hb'⟩
  have hold : ∀ (k : Nat) (o : SO) (b : Nat), (∀ i : Nat, keep[i]? ≠ some k) → os0[k]? = some o → o.isLive = true → (g k).block? = some b → ¬ live (lent keep os) (gk g keep) b := by
    intro k o b hk ho hl hbl hL
    obtain ⟨i, j, o', hi, ho', hl', hb'⟩ := hLlive b hL
    have := hm0.inj j k o' o b ho' ho hl' hl hb' hbl
    subst this
    exact hk i hi
  have hLl0 : ∀ b, live (lent keep os) (gk g keep) b → live os0 g b := fun b hL => by
    obtain ⟨i, j, o, hi, ho, hl, hbl⟩ := hLlive b hL
    exact ⟨j, o, ho, hl, hbl⟩
  have hNs : fr.N ≤ w.heap.size := hm.size
  have hwsz : w.heap.size ≤ w'.heap.size := hmc.size
  have hwsame : ∀ b, b < w.heap.size → ¬ live (lent keep os) (gk g keep) b → w'.heap[b]? = w.heap[b]? := fun b h1 h2 => hmc.frame b h1 h2
  -- what is alive afterwards
  have mixl : ∀ (β : Nat → Option Nat) (o o0 : SO), o.isLive = o0.isLive → (mix β o o0).isLive = o0.isLive := by
    intro β o o0 h
    cases o <;> cases o0 <;> first | rfl | (simp [mix, SO.isLive] at h ⊢)
  have nlive : ∀ b, live (os1 ++ (los.drop keep.length).map (SO.ren (backName keep os.length))) (gB g g' os.length keep.length) b →
      (∃ (k : Nat) (o : SO), (∀ i : Nat, keep[i]? ≠ some k) ∧ os0[k]? = some o ∧ o.isLive = true ∧ (g k).block? = some b) ∨ live los g' b := by
    rintro b ⟨k, o, hk, hl, hbl⟩
    rcases src k o hk with ⟨s1, s2, s3⟩ | ⟨i, o', o0, s1, s2, s3, rfl, s5, s6, s7⟩ | ⟨q, o', rfl, s2, rfl, s4⟩
    · rw [hG1 k s1] at hbl; exact .inl ⟨k, o, s2, s3, hl, hbl⟩
    · rw [mixl _ _ _ s5, ← s5] at hl
      rw [hG1 k (hthere i k s1).1, ← hgk i k s1] at hbl
      exact .inr ⟨i, o', s2, hl, hbl⟩
    · rw [ren_live] at hl; rw [hG2] at hbl; exact .inr ⟨_, o', s2, hl, hbl⟩
  have cown : ∀ b, live los g' b → b < w'.heap.size ∧ (b < w.heap.size → live (lent keep os) (gk g keep) b) := fun b hb => hmc.own b hb
  -- old readings
  have hsub : ∀ b, Bk fr os0 g w b → Bk fr (os1 ++ (los.drop keep.length).map (SO.ren (backName keep os.length))) (gB g g' os.length keep.length) w' b := by
    intro b hb
    refine ⟨Nat.lt_of_lt_of_le hb.1 hwsz, hb.2.1, fun hl => ?_⟩
    rcases nlive b hl with ⟨k, o, h1, h2, h3, h4⟩ | h
    · exact hb.2.2 ⟨k, o, h2, h3, h4⟩
    · exact hb.2.2 (hLl0 b ((cown b h).2 hb.1))
  have hsm : ∀ b, Bk fr os0 g w b → w'.heap[b]? = w.heap[b]? := fun b hb => hwsame b hb.1 fun hL => hb.2.2 (hLl0 b hL)
  have hext : ∀ j, g j ≠ .no → gB g g' os.length keep.length j = g j := fun j hj => hG1 j (by
    rcases Nat.lt_or_ge j os.length with h | h
    · exact h
    · exact absurd (hm.fresh j h) hj)
  have hgrow : Grow fr os0 g w (os1 ++ (los.drop keep.length).map (SO.ren (backName keep os.length))) (gB g g' os.length keep.length) w' := ⟨hsub, hsm, hext⟩
  -- new readings
  have hBn : (∀ b, b < w.heap.size → A b → (b < fr.N → fr.A b) ∧ ¬ live os0 g b) → ∀ b, Bk (frC w A keep os g) los g' w' b → Bk fr (os1 ++ (los.drop keep.length).map (SO.ren (backName keep os.length))) (gB g g' os.length keep.length) w' b := by
    intro hA b hb
    refine ⟨hb.1, fun h => ?_, fun hl => ?_⟩
    · exact (hA b (Nat.lt_of_lt_of_le h hNs) (hb.2.1 (Nat.lt_of_lt_of_le h hNs))).1 h
    · rcases nlive b hl with ⟨k, o, h1, h2, h3, h4⟩ | h
      · have hlt := (hm0.own b ⟨k, o, h2, h3, h4⟩).1
        exact (hA b hlt (hb.2.1 hlt)).2 ⟨k, o, h2, h3, h4⟩
      · exact hb.2.2 h
  have tr : ∀ (i j : Nat) (o : SO), los[i]? = some o → gB g g' os.length keep.length j = g' i → ObjOK w' (Bk fr (os1 ++ (los.drop keep.length).map (SO.ren (backName keep os.length))) (gB g g' os.length keep.length) w') (gB g g' os.length keep.length) j (o.ren (backName keep os.length)) := by
    intro i j o ho hj
    rcases hsl with hA | hf
    · exact (hmc.objs i o ho).ren (hBn hA) hGβ hj
    · have : o.hasSl = false := by
        have := List.any_eq_false.1 hf o (List.mem_of_getElem? ho)
        simpa using this
      exact ((hmc.objs i o ho).flat (B' := Bk fr (os1 ++ (los.drop keep.length).map (SO.ren (backName keep os.length))) (gB g g' os.length keep.length) w') this).ren (fun _ h => h) hGβ hj
  refine ⟨?_, hgrow, fun x v hx hsx => ?_⟩
  · refine { objs := ?_, fresh := ?_, inj := ?_, own := ?_, mine := ?_, frame := ?_, size := Nat.le_trans hNs hwsz, out := hm.out.trans hmc.out }
    · intro k o hk
      rcases src k o hk with ⟨s1, s2, s3⟩ | ⟨i, o', o0, s1, s2, s3, rfl, s5, s6, s7, s8⟩ | ⟨q, o', rfl, s2, rfl, s4⟩
      · refine (hm0.objs k o s3).mono hsub hsm hext fun b hl hbl => ?_
        exact hwsame b (hm0.own b ⟨k, o, s3, hl, hbl⟩).1 (hold k o b s2 s3 hl hbl)
      · have hkl := (hthere i k s1).1
        have := tr i k o' s2 (by rw [hG1 k hkl, hgk i k s1])
        cases o0 with
        | dead => cases s6
        | box l0 =>
          obtain ⟨l', rfl⟩ := s7.2 _ rfl
          exact this
        | arr b0 sz0 l0 =>
          obtain ⟨b', l', rfl⟩ := s7.1 _ _ _ rfl
          exact this
        | frz sz0 l0 =>
          have e : mix (backName keep os.length) o' (.frz sz0 l0) = .frz sz0 l0 := by cases o' <;> rfl
          rw [e]
          exact (hm0.objs k _ s3).mono hsub hsm hext fun b hl _ => by cases hl
      · exact tr _ _ o' s2 (hG2 q)
    · intro k hk
      simp at hk
      have : k = os.length + (k - os.length) := by omega
      rw [this, hG2]
      exact hmc.fresh _ (by omega)
    · intro i k oi ok b hi hk li lk bi bk
      rcases src i oi hi with ⟨s1, s2, s3⟩ | ⟨i', o', o0, s1, s2, s3, rfl, s5, s6⟩ | ⟨q, o', rfl, s2, rfl, s4⟩ <;>
      rcases src k ok hk with ⟨t1, t2, t3⟩ | ⟨k', p', p0, t1, t2, t3, rfl, t5, t6⟩ | ⟨q', p', rfl, t2, rfl, t4⟩
      · rw [hG1 i s1] at bi; rw [hG1 k t1] at bk; exact hm0.inj i k oi ok b s3 t3 li lk bi bk
      · rw [hG1 i s1] at bi
        rw [hG1 k (hthere k' k t1).1] at bk
        rw [mixl _ _ _ t5] at lk
        exact hm0.inj i k oi p0 b s3 t3 li lk bi bk
      · rw [hG1 i s1] at bi; rw [hG2] at bk; rw [ren_live] at lk
        have hlt := (hm0.own b ⟨i, oi, s3, li, bi⟩).1
        exact absurd ((cown b ⟨_, p', t2, lk, bk⟩).2 hlt) (hold i oi b s2 s3 li bi)
      · rw [hG1 k t1] at bk
        rw [hG1 i (hthere i' i s1).1] at bi
        rw [mixl _ _ _ s5] at li
        exact hm0.inj i k o0 ok b s3 t3 li lk bi bk
      · rw [hG1 i (hthere i' i s1).1] at bi
        rw [mixl _ _ _ s5] at li
        rw [hG1 k (hthere k' k t1).1] at bk
        rw [mixl _ _ _ t5] at lk
        exact hm0.inj i k o0 p0 b s3 t3 li lk bi bk
      · rw [hG1 i (hthere i' i s1).1, ← hgk i' i s1] at bi
        rw [mixl _ _ _ s5, ← s5] at li
        rw [hG2] at bk; rw [ren_live] at lk
        have := hmc.inj i' _ o' p' b s2 t2 li lk bi bk
        have := lt_of_getElem? s1
        omega
      · rw [hG1 k t1] at bk; rw [hG2] at bi; rw [ren_live] at li
        have hlt := (hm0.own b ⟨k, ok, t3, lk, bk⟩).1
        exact absurd ((cown b ⟨_, o', s2, li, bi⟩).2 hlt) (hold k ok b t2 t3 lk bk)
      · rw [hG1 k (hthere k' k t1).1, ← hgk k' k t1] at bk
        rw [mixl _ _ _ t5, ← t5] at lk
        rw [hG2] at bi; rw [ren_live] at li
        have := hmc.inj _ k' o' p' b s2 t2 li lk bi bk
        have := lt_of_getElem? t1
        omega
      · rw [hG2] at bi bk; rw [ren_live] at li lk
        have := hmc.inj _ _ o' p' b s2 t2 li lk bi bk
        omega
    · intro b hl
      rcases nlive b hl with ⟨k, o, h1, h2, h3, h4⟩ | h
      · have := hm0.own b ⟨k, o, h2, h3, h4⟩
        exact ⟨Nat.lt_of_lt_of_le this.1 hwsz, this.2⟩
      · obtain ⟨c1, c2⟩ := cown b h
        refine ⟨c1, fun hN => ?_⟩
        exact (hm0.own b (hLl0 b (c2 (Nat.lt_of_lt_of_le hN hNs)))).2 hN
    · intro k sz l b hk hbl
      rcases src k _ hk with ⟨s1, s2, s3⟩ | ⟨i, o', o0, s1, s2, s3, e, s5, s6, s7, s8⟩ | ⟨q, o', rfl, s2, e, s4⟩
      · rw [hG1 k s1] at hbl; exact hm0.mine k sz l b s3 hbl
      · rw [hG1 k (hthere i k s1).1] at hbl
        cases o0 with
        | arr b0 sz0 l0 =>
          obtain ⟨b', l', rfl⟩ := s7.1 _ _ _ rfl
          cases e
          exact hm0.mine k sz l0 b s3 hbl
        | dead => cases s6
        | box l0 => cases o' <;> cases e
        | frz sz0 l0 => cases o' <;> cases e
      · rw [hG2] at hbl
        cases o' with
        | arr b0 sz0 l0 => cases e; exact Nat.le_trans hNs (hmc.mine _ sz l b s2 hbl)
        | _ => cases e
    · intro b hN hL
      have hb : b < w.heap.size := Nat.lt_of_lt_of_le hN hNs
      rw [hwsame b hb fun h => hL ((hm0.own b (hLl0 b h)).2 hN)]
      exact hm.frame b hN hL
  · rcases hsx with hA | hf
    · exact ren3_rep (hBn hA) hGβ hx
    · exact ren3_rep (fun _ h => h) hGβ (flat3 (B' := Bk fr (os1 ++ (los.drop keep.length).map (SO.ren (backName keep os.length))) (gB g g' os.length keep.length) w') hx hf)

end Go.Proofs.Ytjfegdlgepbjoaa
