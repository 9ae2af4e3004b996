/- The evaluator S and what it says of functions: Sq, Sr. -/
import Derived.Test.YtikennabfbkdhaaSp
/- The evaluator S: behind a call. -/
namespace Go.Proofs.Ytikennabfbkdhaa
open Go
set_option linter.unusedVariables false
set_option linter.unusedSimpArgs false
variable {P : Program} {T : Tab}
theorem flat1 {w : World} {B B' : Nat → Prop} {g : Nat → Gh} {x : SV} {v : Value} (h : RepV w B g x v) (hx : hasSl1 x = false) : RepV w B' g x v := by
  cases h <;> simp [hasSl1] at hx
  · exact .v (by assumption)
  · exact .dead
  · exact .osl0 (by assumption)
  · exact .osl (by assumption)
  · exact .osln (by assumption)
  · exact .ptr (by assumption)
  · rename_i f caps vs h1 h2
    cases caps with
    | nil =>
      obtain rfl : vs = [] := by cases vs <;> simp at h1 ⊢
      exact RepV.fn (caps := []) (vs := []) rfl (fun i x v h => by simp at h)
    | cons => simp [hasSl1] at hx
theorem flatL {w : World} {B B' : Nat → Prop} {g : Nat → Gh} {l : List SV} {vs : List Value} (h : RepL w B g l vs) (hx : l.any hasSl1 = false) : RepL w B' g l vs :=
  ⟨h.1, fun i x v h1 h2 => flat1 (h.2 i x v h1 h2) (by
    have := List.any_eq_false.1 hx x (List.mem_of_getElem? h1)
    simpa using this)⟩
theorem flat2 {w : World} {B B' : Nat → Prop} {g : Nat → Gh} {x : SV} {v : Value} (h : RepV w B g x v) (hx : x.cells.any hasSl1 = false) : RepV w B' g x v := by
  by_cases ha : ∃ l, x = .ag l
  · obtain ⟨l, rfl⟩ := ha
    cases h with
    | ag h1 h2 h3 =>
      have := flatL (B' := B') ⟨h1, h2⟩ hx
      exact .ag this.1 this.2 h3
  · have e : x.cells = [x] := by cases x <;> first | rfl | exact absurd ⟨_, rfl⟩ ha
    rw [e] at hx
    exact flat1 h (by simpa using hx)
theorem flat3 {w : World} {B B' : Nat → Prop} {g : Nat → Gh} {x : SV} {v : Value} (h : RepV w B g x v) (hx : hasSl3 x = false) : RepV w B' g x v := by
  by_cases ha : ∃ l, x = .tup l
  · obtain ⟨l, rfl⟩ := ha
    cases h with
    | tup h1 h2 =>
      refine .tup h1 fun i x v hx' hv => flat2 (h2 i x v hx' hv) ?_
      have := List.any_eq_false.1 hx x (List.mem_of_getElem? hx')
      simpa using this
  · have e : hasSl3 x = x.cells.any hasSl1 := by cases x <;> first | rfl | exact absurd ⟨_, rfl⟩ ha
    rw [e] at hx
    exact flat2 h hx
theorem flatE {w : World} {B B' : Nat → Prop} {g : Nat → Gh} {x : SV} {v : Value} (h : RepV w B g x v) (hx : flatSV x = true) : RepV w B' g x v := by
  refine flat2 h ?_
  rw [List.any_eq_false]
  intro y hy
  have := List.all_eq_true.1 hx y hy
  cases y <;> simp_all [hasSl1]
theorem ObjOK.flat {w : World} {B B' : Nat → Prop} {g : Nat → Gh} {j : Nat} {o : SO} (h : ObjOK w B g j o) (hf : o.hasSl = false) : ObjOK w B' g j o := by
  cases o with
  | dead => trivial
  | frz sz l => simp [SO.hasSl] at hf
  | nst lt sz l => exact h
  | arr lt sz l =>
    rcases h with h | ⟨b, cap, vs, h1, h2, h3, h4⟩
    · exact .inl h
    · refine .inr ⟨b, cap, vs, h1, h2, ⟨h3.1, fun i x v hx hv => flatE (h3.2 i x v hx hv) ?_⟩, h4⟩
      simp only [SO.hasSl, Bool.not_eq_false'] at hf
      exact List.all_eq_true.1 hf x (List.mem_of_getElem? hx)
  | box l =>
    obtain ⟨b, vs, h1, h2, h3⟩ := h
    exact ⟨b, vs, h1, flatL h2 hf, h3⟩
def Kin (o o0 : SO) : Prop := (∀ b sz l, o0 = .arr b sz l → o = .dead ∨ ∃ b' l', o = .arr b' sz l') ∧ (∀ l, o0 = .box l → ∃ l', o = .box l') ∧ ∀ b sz l, o0 = .nst b sz l → ∃ b' l', o = .nst b' sz l'
def mix (β : Nat → Option Nat) (o o0 : SO) : SO :=
  match o, o0 with
  | .arr _ sz l, .arr b _ _ => .arr b sz l
  | .box l, .box _ => .box (l.map (ren1 β))
  | .dead, .arr _ _ _ => .dead
  | .nst _ sz l, .nst b _ _ => .nst b sz l
  | _, o0 => o0
def SameL (o o0 : SO) : Prop := o.isLive = o0.isLive ∨ o = .dead ∧ ∃ b sz l, o0 = .arr b sz l
theorem giveBack_of (β : Nat → Option Nat) : ∀ (keep : List Nat) (los os os1 : List SO), nodupB keep = true → giveBack β keep los os = some os1 →
    os1.length = os.length ∧ (∀ j, (∀ i : Nat, keep[i]? ≠ some j) → os1[j]? = os[j]?) ∧
    ∀ (i j : Nat), keep[i]? = some j → ∃ o o0, los[i]? = some o ∧ os[j]? = some o0 ∧ os1[j]? = some (mix β o o0) ∧ SameL o o0 ∧ o0.there = true ∧
      Kin o o0 ∧ (∀ sz l, o = .frz sz l → ∃ sz' l', o0 = .frz sz' l') := by
  intro keep
  induction keep with
  | nil =>
    intro los os os1 _ h
    simp only [giveBack, Option.some.injEq] at h
    subst h
    exact ⟨rfl, fun _ _ => rfl, fun i j h => by simp at h⟩
  | cons j js ih =>
    intro los os os1 hn h
    simp only [nodupB, Bool.and_eq_true, Bool.not_eq_true'] at hn
    obtain ⟨hn1, hn2⟩ := hn
    have hnot : ∀ i : Nat, js[i]? ≠ some j := fun i h => by
      have : js.contains j = true := by simpa using List.mem_of_getElem? h
      rw [this] at hn1; cases hn1
    cases los with
    | nil => simp [giveBack] at h
    | cons o los =>
      simp only [giveBack] at h
      have core : ∀ (o0 x : SO), os[j]? = some o0 → giveBack β js los (os.set j x) = some os1 → x = mix β o o0 → SameL o o0 → o0.there = true →
          Kin o o0 → (∀ sz l, o = .frz sz l → ∃ sz' l', o0 = .frz sz' l') →
          os1.length = os.length ∧ (∀ k, (∀ i : Nat, (j :: js)[i]? ≠ some k) → os1[k]? = os[k]?) ∧
          ∀ (i k : Nat), (j :: js)[i]? = some k → ∃ o' o0', (o :: los)[i]? = some o' ∧ os[k]? = some o0' ∧ os1[k]? = some (mix β o' o0') ∧ SameL o' o0' ∧ o0'.there = true ∧
            Kin o' o0' ∧ (∀ sz l, o' = .frz sz l → ∃ sz' l', o0' = .frz sz' l') := by
        intro o0 x hj hg hx hl ht hz hf
        obtain ⟨h1, h2, h3⟩ := ih los _ os1 hn2 hg
        have hset : ∀ k, k ≠ j → (os.set j x)[k]? = os[k]? := fun k hk => by rw [List.getElem?_set, if_neg (fun e => hk e.symm)]
        refine ⟨by simpa using h1, fun k hk => ?_, fun i k hi => ?_⟩
        · have hkj : k ≠ j := fun e => by subst e; exact hk 0 rfl
          rw [h2 k (fun i hi => hk (i + 1) (by simpa using hi)), hset k hkj]
        · cases i with
          | zero =>
            simp at hi
            subst hi
            refine ⟨o, o0, rfl, hj, ?_, hl, ht, hz, hf⟩
            rw [h2 j hnot, ← hx, List.getElem?_set, if_pos rfl]
            first | rfl | rw [if_pos (lt_of_getElem? hj)]
          | succ i =>
            have hi' : js[i]? = some k := by simpa using hi
            have hkj : k ≠ j := fun e => by subst e; exact hnot i hi'
            obtain ⟨o', o0', a1, a2, a3⟩ := h3 i k hi'
            exact ⟨o', o0', by simpa using a1, by rw [← hset k hkj]; exact a2, a3⟩
      split at h
      · rename_i bb sz l b sz' l' hj
        split at h
        · rename_i e
          subst e
          exact core _ _ hj h rfl (.inl rfl) rfl ⟨(fun b sz l e => by cases e; exact .inr ⟨_, _, rfl⟩), (fun l e => by cases e), (fun b sz l e => by cases e)⟩ (fun sz l e => by cases e)
        · simp at h
      · rename_i l l' hj
        exact core _ _ hj h rfl (.inl rfl) rfl ⟨(fun b sz l e => by cases e), (fun l e => by cases e; exact ⟨_, rfl⟩), (fun b sz l e => by cases e)⟩ (fun sz l e => by cases e)
      · rename_i sz l sz' l' hj
        exact core _ (.frz sz' l') hj (by rw [set_same hj]; exact h) rfl (.inl rfl) rfl ⟨(fun b sz l e => by cases e), (fun l e => by cases e), (fun b sz l e => by cases e)⟩ (fun sz l e => ⟨_, _, rfl⟩)
      · rename_i b sz l hj
        exact core _ .dead hj h rfl (.inr ⟨rfl, _, _, _, rfl⟩) rfl ⟨(fun b sz l e => .inl rfl), (fun l e => by cases e), (fun b sz l e => by cases e)⟩ (fun sz l e => by cases e)
      · rename_i bb sz l b sz' l' hj
        split at h
        · rename_i e
          subst e
          exact core _ _ hj h rfl (.inl rfl) rfl ⟨(fun b sz l e => by cases e), (fun l e => by cases e), (fun b sz l e => by cases e; exact ⟨_, _, rfl⟩)⟩ (fun sz l e => by cases e)
        · simp at h
      · simp at h
theorem freeze_of {fr : Fr} {g : Nat → Gh} {w : World} : ∀ (js : List Nat) {os os1 : List SO}, Mem fr os g w → freeze js os = some os1 →
    Mem fr os1 g w ∧ Grow fr os g w os1 g w ∧ os1.length = os.length ∧ (∀ j, j ∉ js → os1[j]? = os[j]?) ∧ ∀ j, j ∈ js → ∃ sz l, os1[j]? = some (.frz sz l) := by
  intro js
  induction js with
  | nil =>
    intro os os1 hm h
    simp only [freeze, Option.some.injEq] at h
    subst h
    exact ⟨hm, Grow.refl _ _ _ _, rfl, fun _ _ => rfl, fun j h => by simp at h⟩
  | cons j js ih =>
    intro os os1 hm h
    simp only [freeze] at h
    split at h
    · rename_i sz l hj
      have hm1 := freeze_mem hm hj
      obtain ⟨a1, a2, a3, a4, a5⟩ := ih hm1 h
      refine ⟨a1, (freeze_chg hm hj).grow.trans a2, by simpa using a3, fun k hk => ?_, fun k hk => ?_⟩
      · simp at hk
        rw [a4 k hk.2, List.getElem?_set, if_neg (fun e => hk.1 e.symm)]
      · by_cases hjs : k ∈ js
        · exact a5 k hjs
        · have : k = j := by simpa [hjs] using hk
          subst this
          refine ⟨sz, l, ?_⟩
          rw [a4 k hjs, List.getElem?_set, if_pos rfl]
          first | rfl | rw [if_pos (lt_of_getElem? hj)]
    · rename_i sz l hj
      obtain ⟨a1, a2, a3, a4, a5⟩ := ih hm h
      refine ⟨a1, a2, a3, fun k hk => a4 k (fun hh => hk (by simp [hh])), fun k hk => ?_⟩
      by_cases hjs : k ∈ js
      · exact a5 k hjs
      · have : k = j := by simpa [hjs] using hk
        subst this
        exact ⟨sz, l, by rw [a4 k hjs]; exact hj⟩
    · simp at h
def gB (g g' : Nat → Gh) (n m : Nat) (j : Nat) : Gh := if j < n then g j else g' (m + (j - n))
theorem back_mem {fr : Fr} {os os0 os1 los : List SO} {g g' : Nat → Gh} {w w' : World} {keep : List Nat} {A : Nat → Prop} (hm : Mem fr os g w) (hn : nodupB keep = true)
    (hm0 : Mem fr os0 g w) (hlen : os0.length = os.length) (hsame : ∀ i j : Nat, keep[i]? = some j → os0[j]? = os[j]?) (hth : (gcO keep os).all SO.there = true)
    (hmc : Mem (frC w A keep os g) los g' w') (hg' : ∀ i, i < keep.length → gk g keep i ≠ .no → g' i = gk g keep i) (hll : keep.length ≤ los.length)
    (hb : giveBack (backName keep os.length) keep los os0 = some os1)
    (hsl : (∀ b, b < w.heap.size → A b → (b < fr.N → fr.A b) ∧ ¬ live os0 g b) ∨ los.any SO.hasSl = false) :
    Mem fr (os1 ++ (los.drop keep.length).map (fun o => (o.ren (backName keep os.length)).back (anyLent os keep))) (gB g g' os.length keep.length) w' ∧
    Grow fr os0 g w (os1 ++ (los.drop keep.length).map (fun o => (o.ren (backName keep os.length)).back (anyLent os keep))) (gB g g' os.length keep.length) w' ∧
    (∀ x v, RepV w' (Bk (frC w A keep os g) los g' w') g' x v → ((∀ b, b < w.heap.size → A b → (b < fr.N → fr.A b) ∧ ¬ live os0 g b) ∨ hasSl3 x = false) →
      RepV w' (Bk fr (os1 ++ (los.drop keep.length).map (fun o => (o.ren (backName keep os.length)).back (anyLent os keep))) (gB g g' os.length keep.length) w') (gB g g' os.length keep.length) (ren3 (backName keep os.length) x) v) := by
  obtain ⟨b1, b2, b3⟩ := giveBack_of _ keep los os0 os1 hn hb
  have hthere : ∀ i j : Nat, keep[i]? = some j → j < os.length ∧ ∃ o, os[j]? = some o ∧ o.there = true := by
    intro i j hi
    have hgo : (gcO keep os)[i]? = some ((os.getD j .dead).ren (place keep)) := by unfold gcO; rw [List.getElem?_map, hi]; rfl
    have := List.all_eq_true.1 hth _ (List.mem_of_getElem? hgo)
    have hd : os.getD j .dead ≠ .dead := fun e => by rw [e] at this; cases this
    have hj := getD_some rfl hd
    refine ⟨lt_of_getElem? hj, _, hj, ?_⟩
    cases h : os.getD j .dead <;> rw [h] at this <;> first | rfl | exact absurd h hd
  have hgne : ∀ i j : Nat, keep[i]? = some j → g j ≠ .no := by
    intro i j hi
    obtain ⟨_, o, ho, ht⟩ := hthere i j hi
    have hok := hm.objs j o ho
    cases o with
    | dead => cases ht
    | frz sz l => rcases hok with ⟨_, h⟩ | ⟨b, cap, vs, h, _⟩ <;> rw [h] <;> simp
    | arr lt sz l => rcases hok with ⟨_, h⟩ | ⟨b, cap, vs, h, _⟩ <;> rw [h] <;> simp
    | nst lt sz l => rcases hok with ⟨_, h⟩ | ⟨b, cap, vs, ins, h, _⟩ <;> rw [h] <;> simp
    | box l => obtain ⟨b, vs, h, _⟩ := hok; rw [h]; simp
  have hgk : ∀ i j : Nat, keep[i]? = some j → g' i = g j := by
    intro i j hi
    have e : gk g keep i = g j := by unfold gk; rw [hi]
    rw [hg' i (lt_of_getElem? hi) (by rw [e]; exact hgne i j hi), e]
  have hG1 : ∀ j, j < os.length → gB g g' os.length keep.length j = g j := fun j hj => by unfold gB; rw [if_pos hj]
  have hG2 : ∀ k, gB g g' os.length keep.length (os.length + k) = g' (keep.length + k) := fun k => by unfold gB; rw [if_neg (by omega)]; congr 1; omega
  have hGβ : ∀ i j, backName keep os.length i = some j → gB g g' os.length keep.length j = g' i := by
    intro i j h
    unfold backName at h
    split at h
    · rename_i hi
      rw [hG1 j (hthere i j h).1, hgk i j h]
    · rename_i hi
      obtain rfl := Option.some.inj h
      rw [hG2]; congr 1; omega
  have hlen1 : os1.length = os.length := by rw [b1, hlen]
  have src : ∀ (k : Nat) (o : SO), (os1 ++ (los.drop keep.length).map (fun o => (o.ren (backName keep os.length)).back (anyLent os keep)))[k]? = some o →
      (k < os.length ∧ (∀ i : Nat, keep[i]? ≠ some k) ∧ os0[k]? = some o) ∨
      (∃ (i : Nat) (o' o0 : SO), keep[i]? = some k ∧ los[i]? = some o' ∧ os0[k]? = some o0 ∧ o = mix (backName keep os.length) o' o0 ∧ SameL o' o0 ∧ o0.there = true ∧ Kin o' o0 ∧ (∀ sz l, o' = .frz sz l → ∃ sz' l', o0 = .frz sz' l')) ∨
      (∃ (q : Nat) (o' : SO), k = os.length + q ∧ los[keep.length + q]? = some o' ∧ o = (o'.ren (backName keep os.length)).back (anyLent os keep) ∧ True) := by
    intro k o hk
    rcases Nat.lt_or_ge k os1.length with h | h
    · rw [List.getElem?_append_left h] at hk
      by_cases hin : ∃ i : Nat, keep[i]? = some k
      · obtain ⟨i, hi⟩ := hin
        obtain ⟨o', o0, a1, a2, a3, a4, a5, a6, a7⟩ := b3 i k hi
        rw [a3] at hk
        exact .inr (.inl ⟨i, o', o0, hi, a1, a2, (Option.some.inj hk).symm, a4, a5, a6, a7⟩)
      · have hin' : ∀ i : Nat, keep[i]? ≠ some k := fun i hi => hin ⟨i, hi⟩
        rw [b2 k hin'] at hk
        exact .inl ⟨by omega, hin', hk⟩
    · rw [List.getElem?_append_right h, List.getElem?_map] at hk
      obtain ⟨o', ho', rfl⟩ := Option.map_eq_some_iff.1 hk
      rw [List.getElem?_drop] at ho'
      exact .inr (.inr ⟨k - os1.length, o', by omega, ho', rfl, trivial⟩)
  have hLlive : ∀ b, live (lent keep os) (gk g keep) b → ∃ (i j : Nat) (o : SO), keep[i]? = some j ∧ os0[j]? = some o ∧ o.isLive = true ∧ (g j).has b := by
    rintro b ⟨i, o, hi, hl, hbl⟩
    obtain ⟨j, o', hj, ho, hl', hb'⟩ := lent_live hi hl hbl
    exact ⟨i, j, o', hj, by rw [hsame i j hj]; exact ho, hl', hb'⟩
  have hold : ∀ (k : Nat) (o : SO) (b : Nat), (∀ i : Nat, keep[i]? ≠ some k) → os0[k]? = some o → o.isLive = true → (g k).has b → ¬ live (lent keep os) (gk g keep) b := by
    intro k o b hk ho hl hbl hL
    obtain ⟨i, j, o', hi, ho', hl', hb'⟩ := hLlive b hL
    have := hm0.inj j k o' o b ho' ho hl' hl hb' hbl
    subst this
    exact hk i hi
  have hLl0 : ∀ b, live (lent keep os) (gk g keep) b → live os0 g b := fun b hL => by
    obtain ⟨i, j, o, hi, ho, hl, hbl⟩ := hLlive b hL
    exact ⟨j, o, ho, hl, hbl⟩
  have hNs : fr.N ≤ w.heap.size := hm.size
  have hwsz : w.heap.size ≤ w'.heap.size := hmc.size
  have hwsame : ∀ b, b < w.heap.size → ¬ live (lent keep os) (gk g keep) b → w'.heap[b]? = w.heap[b]? := fun b h1 h2 => hmc.frame b h1 h2
  have mixA : ∀ (β : Nat → Option Nat) (o o0 : SO), SameL o o0 → (mix β o o0).isLive = true → o.isLive = true := by
    intro β o o0 h h2
    rcases h with h | ⟨rfl, b, sz, l, rfl⟩
    · cases o <;> cases o0 <;> first | rfl | (simp [mix, SO.isLive] at h h2 ⊢)
    · simp [mix, SO.isLive] at h2
  have mixB : ∀ (β : Nat → Option Nat) (o o0 : SO), SameL o o0 → (mix β o o0).isLive = true → o0.isLive = true := by
    intro β o o0 h h2
    rcases h with h | ⟨rfl, b, sz, l, rfl⟩
    · cases o <;> cases o0 <;> first | rfl | (simp [mix, SO.isLive] at h h2 ⊢)
    · simp [mix, SO.isLive] at h2
  have ren_live : ∀ (β : Nat → Option Nat) (o : SO), ((o.ren β).back (anyLent os keep)).isLive = o.isLive := fun β o => by cases o <;> rfl
  have back_ok : ∀ {w : World} {B : Nat → Prop} {g : Nat → Gh} {j : Nat} {o : SO} {tr : Bool}, ObjOK w B g j o → ObjOK w B g j (o.back tr) := by
    intro w B g j o tr h
    cases o <;> exact h
  have nlive : ∀ b, live (os1 ++ (los.drop keep.length).map (fun o => (o.ren (backName keep os.length)).back (anyLent os keep))) (gB g g' os.length keep.length) b →
      (∃ (k : Nat) (o : SO), (∀ i : Nat, keep[i]? ≠ some k) ∧ os0[k]? = some o ∧ o.isLive = true ∧ (g k).has b) ∨ live los g' b := by
    rintro b ⟨k, o, hk, hl, hbl⟩
    rcases src k o hk with ⟨s1, s2, s3⟩ | ⟨i, o', o0, s1, s2, s3, rfl, s5, s6, s7⟩ | ⟨q, o', rfl, s2, rfl, s4⟩
    · rw [hG1 k s1] at hbl; exact .inl ⟨k, o, s2, s3, hl, hbl⟩
    · have hl := mixA _ _ _ s5 hl
      rw [hG1 k (hthere i k s1).1, ← hgk i k s1] at hbl
      exact .inr ⟨i, o', s2, hl, hbl⟩
    · rw [ren_live] at hl; rw [hG2] at hbl; exact .inr ⟨_, o', s2, hl, hbl⟩
  have cown : ∀ b, live los g' b → b < w'.heap.size ∧ (b < w.heap.size → live (lent keep os) (gk g keep) b) := fun b hb => hmc.own b hb
  have hsub : ∀ b, Bk fr os0 g w b → Bk fr (os1 ++ (los.drop keep.length).map (fun o => (o.ren (backName keep os.length)).back (anyLent os keep))) (gB g g' os.length keep.length) w' b := by
    intro b hb
    refine ⟨Nat.lt_of_lt_of_le hb.1 hwsz, hb.2.1, fun hl => ?_⟩
    rcases nlive b hl with ⟨k, o, h1, h2, h3, h4⟩ | h
    · exact hb.2.2 ⟨k, o, h2, h3, h4⟩
    · exact hb.2.2 (hLl0 b ((cown b h).2 hb.1))
  have hsm : ∀ b, Bk fr os0 g w b → w'.heap[b]? = w.heap[b]? := fun b hb => hwsame b hb.1 fun hL => hb.2.2 (hLl0 b hL)
  have hext : ∀ j, g j ≠ .no → gB g g' os.length keep.length j = g j := fun j hj => hG1 j (by
    rcases Nat.lt_or_ge j os.length with h | h
    · exact h
    · exact absurd (hm.fresh j h) hj)
  have hgrow : Grow fr os0 g w (os1 ++ (los.drop keep.length).map (fun o => (o.ren (backName keep os.length)).back (anyLent os keep))) (gB g g' os.length keep.length) w' := ⟨hsub, hsm, hext⟩
  have hBn : (∀ b, b < w.heap.size → A b → (b < fr.N → fr.A b) ∧ ¬ live os0 g b) → ∀ b, Bk (frC w A keep os g) los g' w' b → Bk fr (os1 ++ (los.drop keep.length).map (fun o => (o.ren (backName keep os.length)).back (anyLent os keep))) (gB g g' os.length keep.length) w' b := by
    intro hA b hb
    refine ⟨hb.1, fun h => ?_, fun hl => ?_⟩
    · exact (hA b (Nat.lt_of_lt_of_le h hNs) (hb.2.1 (Nat.lt_of_lt_of_le h hNs))).1 h
    · rcases nlive b hl with ⟨k, o, h1, h2, h3, h4⟩ | h
      · have hlt := (hm0.own b ⟨k, o, h2, h3, h4⟩).1
        exact (hA b hlt (hb.2.1 hlt)).2 ⟨k, o, h2, h3, h4⟩
      · exact hb.2.2 h
  have tr : ∀ (i j : Nat) (o : SO), los[i]? = some o → gB g g' os.length keep.length j = g' i → ObjOK w' (Bk fr (os1 ++ (los.drop keep.length).map (fun o => (o.ren (backName keep os.length)).back (anyLent os keep))) (gB g g' os.length keep.length) w') (gB g g' os.length keep.length) j (o.ren (backName keep os.length)) := by
    intro i j o ho hj
    rcases hsl with hA | hf
    · exact (hmc.objs i o ho).ren (hBn hA) hGβ hj
    · have : o.hasSl = false := by
        have := List.any_eq_false.1 hf o (List.mem_of_getElem? ho)
        simpa using this
      exact ((hmc.objs i o ho).flat (B' := Bk fr (os1 ++ (los.drop keep.length).map (fun o => (o.ren (backName keep os.length)).back (anyLent os keep))) (gB g g' os.length keep.length) w') this).ren (fun _ h => h) hGβ hj
  refine ⟨?_, hgrow, fun x v hx hsx => ?_⟩
  · refine { objs := ?_, fresh := ?_, inj := ?_, own := ?_, mine := ?_, frame := ?_, size := Nat.le_trans hNs hwsz, out := hm.out.trans hmc.out }
    · intro k o hk
      rcases src k o hk with ⟨s1, s2, s3⟩ | ⟨i, o', o0, s1, s2, s3, rfl, s5, s6, s7, s8⟩ | ⟨q, o', rfl, s2, rfl, s4⟩
      · refine (hm0.objs k o s3).mono hsub hsm hext fun b hl hbl => ?_
        exact hwsame b (hm0.own b ⟨k, o, s3, hl, hbl⟩).1 (hold k o b s2 s3 hl hbl)
      · have hkl := (hthere i k s1).1
        have := tr i k o' s2 (by rw [hG1 k hkl, hgk i k s1])
        cases o0 with
        | dead => cases s6
        | box l0 =>
          obtain ⟨l', rfl⟩ := s7.2.1 _ rfl
          exact this
        | nst b0 sz0 l0 =>
          obtain ⟨b', l', rfl⟩ := s7.2.2 _ _ _ rfl
          exact this
        | arr b0 sz0 l0 =>
          rcases s7.1 _ _ _ rfl with rfl | ⟨b', l', rfl⟩
          · exact trivial
          · exact this
        | frz sz0 l0 =>
          have e : mix (backName keep os.length) o' (.frz sz0 l0) = .frz sz0 l0 := by cases o' <;> rfl
          rw [e]
          exact (hm0.objs k _ s3).mono hsub hsm hext fun b hl _ => by cases hl
      · exact back_ok (tr _ _ o' s2 (hG2 q))
    · intro k hk
      simp at hk
      have : k = os.length + (k - os.length) := by omega
      rw [this, hG2]
      exact hmc.fresh _ (by omega)
    · intro i k oi ok b hi hk li lk bi bk
      rcases src i oi hi with ⟨s1, s2, s3⟩ | ⟨i', o', o0, s1, s2, s3, rfl, s5, s6⟩ | ⟨q, o', rfl, s2, rfl, s4⟩ <;>
      rcases src k ok hk with ⟨t1, t2, t3⟩ | ⟨k', p', p0, t1, t2, t3, rfl, t5, t6⟩ | ⟨q', p', rfl, t2, rfl, t4⟩
      · rw [hG1 i s1] at bi; rw [hG1 k t1] at bk; exact hm0.inj i k oi ok b s3 t3 li lk bi bk
      · rw [hG1 i s1] at bi
        rw [hG1 k (hthere k' k t1).1] at bk
        have lk := mixB _ _ _ t5 lk
        exact hm0.inj i k oi p0 b s3 t3 li lk bi bk
      · rw [hG1 i s1] at bi; rw [hG2] at bk; rw [ren_live] at lk
        have hlt := (hm0.own b ⟨i, oi, s3, li, bi⟩).1
        exact absurd ((cown b ⟨_, p', t2, lk, bk⟩).2 hlt) (hold i oi b s2 s3 li bi)
      · rw [hG1 k t1] at bk
        rw [hG1 i (hthere i' i s1).1] at bi
        have li := mixB _ _ _ s5 li
        exact hm0.inj i k o0 ok b s3 t3 li lk bi bk
      · rw [hG1 i (hthere i' i s1).1] at bi
        have li := mixB _ _ _ s5 li
        rw [hG1 k (hthere k' k t1).1] at bk
        have lk := mixB _ _ _ t5 lk
        exact hm0.inj i k o0 p0 b s3 t3 li lk bi bk
      · rw [hG1 i (hthere i' i s1).1, ← hgk i' i s1] at bi
        have li := mixA _ _ _ s5 li
        rw [hG2] at bk; rw [ren_live] at lk
        have := hmc.inj i' _ o' p' b s2 t2 li lk bi bk
        have := lt_of_getElem? s1
        omega
      · rw [hG1 k t1] at bk; rw [hG2] at bi; rw [ren_live] at li
        have hlt := (hm0.own b ⟨k, ok, t3, lk, bk⟩).1
        exact absurd ((cown b ⟨_, o', s2, li, bi⟩).2 hlt) (hold k ok b t2 t3 lk bk)
      · rw [hG1 k (hthere k' k t1).1, ← hgk k' k t1] at bk
        have lk := mixA _ _ _ t5 lk
        rw [hG2] at bi; rw [ren_live] at li
        have := hmc.inj _ k' o' p' b s2 t2 li lk bi bk
        have := lt_of_getElem? t1
        omega
      · rw [hG2] at bi bk; rw [ren_live] at li lk
        have := hmc.inj _ _ o' p' b s2 t2 li lk bi bk
        omega
    · intro b hl
      rcases nlive b hl with ⟨k, o, h1, h2, h3, h4⟩ | h
      · have := hm0.own b ⟨k, o, h2, h3, h4⟩
        exact ⟨Nat.lt_of_lt_of_le this.1 hwsz, this.2⟩
      · obtain ⟨c1, c2⟩ := cown b h
        refine ⟨c1, fun hN => ?_⟩
        exact (hm0.own b (hLl0 b (c2 (Nat.lt_of_lt_of_le hN hNs)))).2 hN
    · intro k sz l b hk hbl
      rcases src k _ hk with ⟨s1, s2, s3⟩ | ⟨i, o', o0, s1, s2, s3, e, s5, s6, s7, s8⟩ | ⟨q, o', rfl, s2, e, s4⟩
      · rw [hG1 k s1] at hbl; exact hm0.mine k sz l b s3 hbl
      · rw [hG1 k (hthere i k s1).1] at hbl
        cases o0 with
        | arr b0 sz0 l0 =>
          rcases s7.1 _ _ _ rfl with rfl | ⟨b', l', rfl⟩
          · cases e
          · cases e
            exact hm0.mine k sz l0 b s3 hbl
        | dead => cases s6
        | box l0 => cases o' <;> cases e
        | frz sz0 l0 => cases o' <;> cases e
        | nst b0 sz0 l0 => cases o' <;> cases e
      · rw [hG2] at hbl
        cases o' with
        | arr b0 sz0 l0 =>
          simp only [SO.ren, SO.back, SO.arr.injEq] at e
          obtain ⟨e1, rfl, rfl⟩ := e
          cases b0 with
          | false => exact Nat.le_trans hNs (hmc.mine _ _ _ b s2 hbl)
          | true =>
            have htr : anyLent os keep = false := by simpa using e1.symm
            rcases Nat.lt_or_ge b w.heap.size with hlt | hge
            · obtain ⟨i0, j0, o1, k1, k2, k3, k4⟩ := hLlive b ((cown b ⟨_, _, s2, rfl, hbl⟩).2 hlt)
              obtain ⟨o', o0, a1, a2, a3, a4, a5, a6, a7⟩ := b3 i0 j0 k1
              obtain rfl : o1 = o0 := by rw [a2] at k2; exact (Option.some.inj k2).symm
              rcases a4 with a4 | ⟨rfl, b9, sz9, l9, rfl⟩
              · have hi := hmc.inj i0 _ o' _ b a1 s2 (by rw [a4]; exact k3) rfl (by rw [hgk i0 j0 k1]; exact k4) hbl
                have := lt_of_getElem? k1
                omega
              · have h9 : b9 = false := by
                  unfold anyLent at htr
                  rw [List.any_eq_false] at htr
                  have h8 := htr j0 (List.mem_of_getElem? k1)
                  rw [← hsame i0 j0 k1, k2] at h8
                  simpa using h8
                subst h9
                exact hm0.mine j0 sz9 l9 b k2 k4
            · exact Nat.le_trans hNs hge
        | _ => cases e
    · intro b hN hL
      have hb : b < w.heap.size := Nat.lt_of_lt_of_le hN hNs
      rw [hwsame b hb fun h => hL ((hm0.own b (hLl0 b h)).2 hN)]
      exact hm.frame b hN hL
  · rcases hsx with hA | hf
    · exact ren3_rep (hBn hA) hGβ hx
    · exact ren3_rep (fun _ h => h) hGβ (flat3 (B' := Bk fr (os1 ++ (los.drop keep.length).map (fun o => (o.ren (backName keep os.length)).back (anyLent os keep))) (gB g g' os.length keep.length) w') hx hf)
end Go.Proofs.Ytikennabfbkdhaa

/- The evaluator S: calls of functions are sound, where the functions are. -/
namespace Go.Proofs.Ytikennabfbkdhaa
open Go
set_option linter.unusedVariables false
set_option linter.unusedSimpArgs false
variable {P : Program} {T : Tab}
def FnOK (P : Program) (f : Nat) : Prop := ∃ fn b, P.funcs[f]? = some fn ∧ (fn.name == "runtime.NumGoroutine") = false ∧ fn.body = some b
def KOK1 (P : Program) (f : Nat) (K : List SV → List SO → Out) : Prop :=
  ∀ (args : List SV) (los los' : List SO) (r : SV), K args los = some (r, los') → FnOK P f ∧
    ∀ (A L : Nat → Prop) (g : Nat → Gh) (vals : List Value) (w : World), (∀ b, live los g b → L b) → Mem ⟨w.heap.size, A, L, w⟩ los g w → RepL w (Bk ⟨w.heap.size, A, L, w⟩ los g w) g args vals →
      Calls P f vals.toArray w fun e w' => ∃ v g', e = .returned v ∧ Mem ⟨w.heap.size, A, L, w⟩ los' g' w' ∧ (∀ j, j < los.length → g j ≠ .no → g' j = g j) ∧
        RepV w' (Bk ⟨w.heap.size, A, L, w⟩ los' g' w') g' r v ∧ los.length ≤ los'.length
def KOK (P : Program) (K : Nat → List SV → List SO → Out) : Prop := ∀ f, KOK1 P f (K f)
theorem argO_rep {w : World} {B : Nat → Prop} {g : Nat → Gh} {env : Env} {a : Act} (hs : Slots w B g env a.tmps) (p : Operand × Nat) : RepV w B g (argO T env p) (a.eval p.1) := by
  obtain ⟨x, t⟩ := p
  unfold argO
  split
  · rename_i h
    simp only at h
    subst h
    unfold nilA
    split
    · split
      · exact .sl0
      · exact .dead
    · exact .dead
  · exact ev_rep hs x
theorem args_rep {w : World} {B : Nat → Prop} {g : Nat → Gh} {env : Env} {a : Act} (hs : Slots w B g env a.tmps) : ∀ (l : List Operand) (ts : List Nat), ts.length = l.length →
    RepL w B g ((l.zip ts).map (argO T env)) (l.map a.eval) := by
  intro l ts h
  refine ⟨by simp [h], fun i x v h1 h2 => ?_⟩
  rw [List.getElem?_map] at h1 h2
  obtain ⟨p, hp, rfl⟩ := Option.map_eq_some_iff.1 h1
  obtain ⟨y, hy, rfl⟩ := Option.map_eq_some_iff.1 h2
  have := List.getElem?_zip_eq_some.1 hp
  rw [hy] at this
  have e : p.1 = y := (Option.some.inj this.1).symm
  rw [← e]
  exact argO_rep hs p
theorem snap_mem {keep : List Nat} {x y : SV} {args : List SV} {j : Nat} (hx : x ∈ args) (hy : y ∈ x.cells) (hj : y = .osl j ∨ ∃ lo hi, y = .vw j lo hi) (hk : ∀ i : Nat, keep[i]? ≠ some j) : j ∈ args.flatMap (snapIds keep) := by
  rw [List.mem_flatMap]
  refine ⟨x, hx, ?_⟩
  unfold snapIds
  rw [List.mem_flatMap]
  refine ⟨y, hy, ?_⟩
  rcases hj with rfl | ⟨lo, hi, rfl⟩
  · simp only
    split
    · rename_i i hi
      exact absurd (place_get hi) (hk i)
    · simp
  · simp
theorem notKeep_argV {os : List SO} {keep : List Nat} : ∀ {xs ys : List SV}, argVs os keep xs = some ys → ∀ x, x ∈ xs → ∃ y, argV os keep x = some y
  | [], _, _, x, hx => by simp at hx
  | z :: zs, ys, h, x, hx => by
    simp only [argVs] at h
    split at h
    · rename_i y ys' hy hys
      rcases List.mem_cons.1 hx with rfl | hx
      · exact ⟨y, hy⟩
      · exact notKeep_argV hys x hx
    · simp at h
theorem notKeep_argCell {os : List SO} {keep : List Nat} : ∀ {xs ys : List SV}, argCells os keep xs = some ys → ∀ x, x ∈ xs → ∃ y, argCell os keep x = some y
  | [], _, _, x, hx => by simp at hx
  | z :: zs, ys, h, x, hx => by
    simp only [argCells] at h
    split at h
    · rename_i y ys' hy hys
      rcases List.mem_cons.1 hx with rfl | hx
      · exact ⟨y, hy⟩
      · exact notKeep_argCell hys x hx
    · simp at h
theorem notKeep_cells {os : List SO} {keep : List Nat} {x y : SV} (h : argV os keep x = some y) : ∀ z, z ∈ x.cells → ∃ y, argCell os keep z = some y := by
  intro z hz
  unfold argV at h
  split at h
  · split at h
    · rename_i l ys hys
      exact notKeep_argCell hys z hz
    · simp at h
  · rename_i hna
    have e : x.cells = [x] := by cases x <;> first | rfl | exact absurd rfl (hna _)
    rw [e] at hz
    simp at hz
    subst hz
    exact ⟨y, h⟩
theorem place_some : ∀ {keep : List Nat} {i j : Nat}, keep[i]? = some j → ∃ k, place keep j = some k
  | [], i, j, h => by simp at h
  | k :: ks, i, j, h => by
    simp only [place]
    split
    · exact ⟨_, rfl⟩
    · rename_i hne
      cases i with
      | zero => simp at h; exact absurd h hne
      | succ i =>
        obtain ⟨q, hq⟩ := place_some (keep := ks) (i := i) (j := j) (by simpa using h)
        rw [hq]; exact ⟨_, rfl⟩
theorem snap_not {os : List SO} {keep : List Nat} {args ys : List SV} (h : argVs os keep args = some ys) {j : Nat} (hj : j ∈ args.flatMap (snapIds keep)) : ∀ i : Nat, keep[i]? ≠ some j := by
  intro i hi
  obtain ⟨k, hk⟩ := place_some hi
  rw [List.mem_flatMap] at hj
  obtain ⟨x, hx, hj⟩ := hj
  obtain ⟨y, hy⟩ := notKeep_argV h x hx
  unfold snapIds at hj
  rw [List.mem_flatMap] at hj
  obtain ⟨z, hz, hj⟩ := hj
  obtain ⟨u, hu⟩ := notKeep_cells hy z hz
  split at hj
  · rename_i j'
    split at hj
    · simp at hj
    · rename_i hp
      simp at hj
      subst hj
      rw [hk] at hp; cases hp
  · rename_i j' lo hi'
    simp at hj
    subst hj
    simp only [argCell, hk] at hu
    cases hu
  · simp at hj
theorem freeze_own : ∀ (js : List Nat) {os os1 : List SO}, freeze js os = some os1 → ∀ j, j ∈ js → (os.getD j .dead).own = true := by
  intro js
  induction js with
  | nil => intro os os1 h j hj; simp at hj
  | cons k ks ih =>
    intro os os1 h j hj
    simp only [freeze] at h
    split at h
    · rename_i sz l hk
      by_cases e : j = k
      · subst e; rw [List.getD_eq_getElem?_getD, hk]; rfl
      · have := ih h j (by simpa [e] using hj)
        rw [List.getD_eq_getElem?_getD, List.getElem?_set, if_neg (fun e' => e e'.symm)] at this
        rw [List.getD_eq_getElem?_getD]; exact this
    · rename_i sz l hk
      by_cases e : j = k
      · subst e; rw [List.getD_eq_getElem?_getD, hk]; rfl
      · exact ih h j (by simpa [e] using hj)
    · simp at h
theorem freeze_arr : ∀ (js : List Nat) {os os1 : List SO}, freeze js os = some os1 → ∀ j, j ∈ js → ∃ sz l, os[j]? = some (.arr false sz l) ∨ os[j]? = some (.frz sz l) := by
  intro js
  induction js with
  | nil => intro os os1 h j hj; simp at hj
  | cons k ks ih =>
    intro os os1 h j hj
    simp only [freeze] at h
    split at h
    · rename_i sz l hk
      by_cases e : j = k
      · subst e; exact ⟨sz, l, .inl hk⟩
      · obtain ⟨sz', l', h9⟩ := ih h j (by simpa [e] using hj)
        rw [List.getElem?_set, if_neg (fun e' => e e'.symm)] at h9
        exact ⟨sz', l', h9⟩
    · rename_i sz l hk
      by_cases e : j = k
      · subst e; exact ⟨sz, l, .inr hk⟩
      · exact ih h j (by simpa [e] using hj)
    · simp at h
theorem call_rep {c : Cx} (hK : KOK P c.K) {fr : Fr} {os os1 : List SO} {g : Nat → Gh} {w : World} (hm : Mem fr os g w) {f : Nat} {args : List SV} {vals : List Value} {y : SV} (ha : RepL w (Bk fr os g w) g args vals)
    (h : callS c os f args = some (y, os1)) : FnOK P f ∧ os.length ≤ os1.length ∧ Calls P f vals.toArray w fun e w' => ∃ v, e = .returned v ∧ Res fr os g w os1 y v w' := by
  unfold callS at h
  split at h
  · simp at h
  rename_i keep hkeep
  obtain ⟨hn, -, -⟩ := okKeep_of hkeep
  split at h
  · simp at h
  rename_i as has
  split at h
  rotate_left
  · simp at h
  rename_i hth
  split at h
  · simp at h
  rename_i r los hcall
  split at h
  · simp at h
  rename_i os0 hfrz
  split at h
  · simp at h
  rename_i os1' hgb
  split at h
  rotate_left
  · simp at h
  rename_i hown
  obtain ⟨rfl, rfl⟩ := Prod.mk.inj (Option.some.inj h)
  obtain ⟨hfn, hcalls⟩ := hK f as _ los r hcall
  have hll : (lent keep os).length = keep.length := by simp [lent, gcO]
  have hfz : ∃ os0', True ∧ freeze (args.flatMap (snapIds keep)) os = some os0' ∧ os0 = os0' ∨ (hasSl3 r || los.any SO.hasSl) = false ∧ os0 = os := by
    split at hfrz
    · exact ⟨os0, .inl ⟨trivial, hfrz, rfl⟩⟩
    · rename_i hc
      have hc' := eq_false_of_ne_true hc
      rw [Bool.or_eq_false_iff] at hc'
      exact ⟨os, .inr ⟨hc'.2, (Option.some.inj hfrz).symm⟩⟩
  have main : ∀ (A : Nat → Prop), Mem fr os0 g w → Grow fr os g w os0 g w → os0.length = os.length → (∀ i j : Nat, keep[i]? = some j → os0[j]? = os[j]?) → (∀ b, Bk fr os g w b → A b) →
      (∀ j, j ∈ args.flatMap (snapIds keep) → ∀ o b, os[j]? = some o → o.isLive = true → (g j).has b → A b) →
      ((∀ b, b < w.heap.size → A b → (b < fr.N → fr.A b) ∧ ¬ live os0 g b) ∨ (hasSl3 r || los.any SO.hasSl) = false) →
      os.length ≤ (os1' ++ (los.drop keep.length).map (fun o => (o.ren (backName keep os.length)).back (anyLent os keep))).length ∧ Calls P f vals.toArray w fun e w' => ∃ v, e = .returned v ∧ Res fr os g w (os1' ++ (los.drop keep.length).map (fun o => (o.ren (backName keep os.length)).back (anyLent os keep))) (ren3 (backName keep os.length) r) v w' := by
    intro A hm0 hgr hlen hsame hA hsn hsl
    have hlen1 : os1'.length = os.length := by
      obtain ⟨b1, -, -⟩ := giveBack_of _ keep los os0 os1' hn hgb
      rw [b1, hlen]
    refine ⟨by simp [hlen1], ?_⟩
    have hmem := lent_mem hm hn hA
    have hargs := argVs_rep hm hA args ha has (fun x hx z hz j hj hk => hsn j (snap_mem hx hz hj hk))
    refine Calls.mono (hcalls A _ (gk g keep) vals w (fun b hb => hb) hmem hargs) ?_
    rintro e w' ⟨v, g', rfl, hmc, hg', hr, hle⟩
    have hle' : keep.length ≤ los.length := by
      have : (lent keep os).length ≤ los.length := hle
      rwa [hll] at this
    have hg'' : ∀ i, i < keep.length → gk g keep i ≠ .no → g' i = gk g keep i := fun i hi => hg' i (by
      have : i < (lent keep os).length := by rw [hll]; exact hi
      exact this)
    have hslb : (∀ b, b < w.heap.size → A b → (b < fr.N → fr.A b) ∧ ¬ live os0 g b) ∨ los.any SO.hasSl = false := hsl.imp_right fun h => by
      rw [Bool.or_eq_false_iff] at h; exact h.2
    have hslr : (∀ b, b < w.heap.size → A b → (b < fr.N → fr.A b) ∧ ¬ live os0 g b) ∨ hasSl3 r = false := hsl.imp_right fun h => by
      rw [Bool.or_eq_false_iff] at h; exact h.1
    obtain ⟨m, gr, rp⟩ := back_mem hm hn hm0 hlen hsame hth hmc hg'' hle' hgb hslb
    exact ⟨v, rfl, _, m, hgr.trans gr, rp r v hr hslr⟩
  obtain ⟨os0', ⟨hc, hf, rfl⟩ | ⟨hc, rfl⟩⟩ := hfz
  · obtain ⟨f1, f2, f3, f4, f5⟩ := freeze_of _ hm hf
    refine ⟨hfn, main (fun b => Bk fr os0 g w b) f1 f2 f3 (fun i j hi => ?_) f2.sub (fun j hj o b ho hlv hb => ?_) (.inl fun b _ hb => hb.2)⟩
    · exact f4 j fun hj => snap_not has hj i hi
    · obtain ⟨sz, l, hoa⟩ := freeze_arr _ hf j hj
      obtain ⟨lt, sz, l, rfl⟩ : ∃ lt sz l, o = .arr lt sz l := by
        rcases hoa with hoa | hoa
        · rw [ho] at hoa; exact ⟨_, _, _, Option.some.inj hoa⟩
        · rw [ho] at hoa; obtain rfl := Option.some.inj hoa; cases hlv
      refine ⟨(hm.own b ⟨j, _, ho, rfl, hb⟩).1, fun hN => ?_, fun hl => ?_⟩
      · -- an array that was frozen is the frame's own
        obtain ⟨sz', l', hz⟩ := f5 j hj
        have hlt : lt = false := by
          have := freeze_own _ hf j hj
          rw [List.getD_eq_getElem?_getD, ho] at this
          cases lt
          · rfl
          · cases this
        subst hlt
        exact absurd hN (Nat.not_lt.2 (hm.mine j sz l b ho hb))
      · obtain ⟨k, o, hk, hkl, hkb⟩ := hl
        have hkn : k ∉ args.flatMap (snapIds keep) := fun hin => by
          obtain ⟨sz', l', hz⟩ := f5 k hin
          rw [hz] at hk; obtain rfl := Option.some.inj hk; cases hkl
        have hk' : os[k]? = some o := by rw [← f4 k hkn]; exact hk
        have := hm.inj k j o _ b hk' ho hkl rfl hkb hb
        subst this
        exact hkn hj
  · exact ⟨hfn, main (fun _ => True) hm (Grow.refl _ _ _ _) rfl (fun _ _ _ => rfl) (fun _ _ => trivial) (fun _ _ _ _ _ _ _ => trivial) (.inr hc)⟩
theorem call_ok {c : Cx} (hK : KOK P c.K) {fr : Fr} {os os1 : List SO} {g : Nat → Gh} {w : World} (hm : Mem fr os g w) {env : Env} {a : Act} (hs : Slots w (Bk fr os g w) g env a.tmps) {o : Oper} {f : Operand} {args : Array Operand} {ts : Array TypeId} {y : SV}
    (ho : o.op = .call { callee := .value f, args := args, argTypes := ts }) (hsz : ts.size = args.size) (h : calleeS c os (ev env f) ((args.toList.zip ts.toList).map (argO c.T env)) = some (y, os1)) :
    OpOK P fr os g w os1 y o a ∧ os.length ≤ os1.length := by
  unfold calleeS at h
  split at h
  · rename_i f' caps he
    have hf := ev_rep hs f
    rw [he] at hf
    generalize hfv : a.eval f = fv at hf
    cases hf with
    | fn h1 h2 =>
      rename_i vs
      have ha : RepL w (Bk fr os g w) g ((args.toList.zip ts.toList).map (argO c.T env) ++ caps) (args.toList.map a.eval ++ vs) :=
        (args_rep hs args.toList ts.toList (by simpa using hsz)).append ⟨h1, h2⟩
      obtain ⟨⟨fn, b, hfn, hname, hb⟩, hle, hcalls⟩ := call_rep hK hm ha h
      refine ⟨?_, hle⟩
      intro next Q hn
      have hrun : (execOp a.eval o).run P w = .ok (.enter f' (args.toList.map a.eval ++ vs).toArray) w := by
        have e : args.map a.eval ++ vs.toArray = (args.toList.map a.eval ++ vs).toArray := by
          apply Array.toList_inj.1; simp
        have hname' : ¬ fn.name = "runtime.NumGoroutine" := by simpa using hname
        simp [execOp, ho, resolve, hfv, Deferred.ofValue, invoke, callFunc, hfn, hname', hb, e]
      unfold Oper.wp
      rw [hrun]
      refine Calls.mono hcalls ?_
      rintro e w' ⟨v, rfl, hres⟩
      exact hn v w' hres
  · simp at h
theorem callOK {c : Cx} (hK : KOK P c.K) : CallOK P c :=
  fun fr os os1 g w env a o f args ts y hm hs ho hsz h => (call_ok hK hm hs ho hsz h).1
end Go.Proofs.Ytikennabfbkdhaa
