/- The evaluator S: calls of functions are sound, where the functions are. -/
import Derived.Test.YtjfegdlgepbjoaaSq
namespace Go.Proofs.Ytjfegdlgepbjoaa
open Go
set_option linter.unusedVariables false
set_option linter.unusedSimpArgs false
variable {P : Program} {T : Tab}

/-- A function that has code and may be entered. -/
def FnOK (P : Program) (f : Nat) : Prop := ∃ fn b, P.funcs[f]? = some fn ∧ (fn.name == "runtime.NumGoroutine") = false ∧ fn.body = some b

/-- What is asked of a function: it answers as S says. -/
def KOK1 (P : Program) (f : Nat) (K : List SV → List SO → Out) : Prop :=
  ∀ (args : List SV) (los los' : List SO) (r : SV), K args los = some (r, los') → FnOK P f ∧
    ∀ (A L : Nat → Prop) (g : Nat → Gh) (vals : List Value) (w : World), (∀ b, live los g b → L b) → Mem ⟨w.heap.size, A, L, w⟩ los g w → RepL w (Bk ⟨w.heap.size, A, L, w⟩ los g w) g args vals →
      Calls P f vals.toArray w fun e w' => ∃ v g', e = .returned v ∧ Mem ⟨w.heap.size, A, L, w⟩ los' g' w' ∧ (∀ j, j < los.length → g j ≠ .no → g' j = g j) ∧
        RepV w' (Bk ⟨w.heap.size, A, L, w⟩ los' g' w') g' r v ∧ los.length ≤ los'.length

def KOK (P : Program) (K : Nat → List SV → List SO → Out) : Prop := ∀ f, KOK1 P f (K f)

theorem argO_rep {w : World} {B : Nat → Prop} {g : Nat → Gh} {env : Env} {a : Act} (hs : Slots w B g env a.tmps) (p : Operand × Nat) : RepV w B g (argO T env p) (a.eval p.1) := by
  obtain ⟨x, t⟩ := p
  unfold argO
  split
  · rename_i h
    simp only at h
    subst h
    unfold nilA
    split
    · split
      · exact .sl0
      · exact .dead
    · exact .dead
  · exact ev_rep hs x

theorem args_rep {w : World} {B : Nat → Prop} {g : Nat → Gh} {env : Env} {a : Act} (hs : Slots w B g env a.tmps) : ∀ (l : List Operand) (ts : List Nat), ts.length = l.length →
    RepL w B g ((l.zip ts).map (argO T env)) (l.map a.eval) := by
  intro l ts h
  refine ⟨by simp [h], fun i x v h1 h2 => ?_⟩
  rw [List.getElem?_map] at h1 h2
  obtain ⟨p, hp, rfl⟩ := Option.map_eq_some_iff.1 h1
  obtain ⟨y, hy, rfl⟩ := Option.map_eq_some_iff.1 h2
  have := List.getElem?_zip_eq_some.1 hp
  rw [hy] at this
  have e : p.1 = y := (Option.some.inj this.1).symm
  rw [← e]
  exact argO_rep hs p

theorem snap_mem {keep : List Nat} {x y : SV} {args : List SV} {j : Nat} (hx : x ∈ args) (hy : y ∈ x.cells) (hj : y = .osl j ∨ ∃ lo hi, y = .vw j lo hi) (hk : ∀ i : Nat, keep[i]? ≠ some j) : j ∈ args.flatMap (snapIds keep) := by
  rw [List.mem_flatMap]
  refine ⟨x, hx, ?_⟩
  unfold snapIds
  rw [List.mem_flatMap]
  refine ⟨y, hy, ?_⟩
  rcases hj with rfl | ⟨lo, hi, rfl⟩
  · simp only
    split
    · rename_i i hi
      exact absurd (place_get hi) (hk i)
    · simp
  · simp

theorem notKeep_argV {os : List SO} {keep : List Nat} : ∀ {xs ys : List SV}, argVs os keep xs = some ys → ∀ x, x ∈ xs → ∃ y, argV os keep x = some y
  | [], _, _, x, hx => by simp at hx
  | z :: zs, ys, h, x, hx => by
    simp only [argVs] at h
    split at h
    · rename_i y ys' hy hys
      rcases List.mem_cons.1 hx with rfl | hx
      · exact ⟨y, hy⟩
      · exact notKeep_argV hys x hx
    · simp at h

theorem notKeep_argCell {os : List SO} {keep : List Nat} : ∀ {xs ys : List SV}, argCells os keep xs = some ys → ∀ x, x ∈ xs → ∃ y, argCell os keep x = some y
  | [], _, _, x, hx => by simp at hx
  | z :: zs, ys, h, x, hx => by
    simp only [argCells] at h
    split at h
    · rename_i y ys' hy hys
      rcases List.mem_cons.1 hx with rfl | hx
      · exact ⟨y, hy⟩
      · exact notKeep_argCell hys x hx
    · simp at h

theorem notKeep_cells {os : List SO} {keep : List Nat} {x y : SV} (h : argV os keep x = some y) : ∀ z, z ∈ x.cells → ∃ y, argCell os keep z = some y := by
  intro z hz
  unfold argV at h
  split at h
  · split at h
    · rename_i l ys hys
      exact notKeep_argCell hys z hz
    · simp at h
  · rename_i hna
    have e : x.cells = [x] := by cases x <;> first | rfl | exact absurd rfl (hna _)
    rw [e] at hz
    simp at hz
    subst hz
    exact ⟨y, h⟩

theorem place_some : ∀ {keep : List Nat} {i j : Nat}, keep[i]? = some j → ∃ k, place keep j = some k
  | [], i, j, h => by simp at h
  | k :: ks, i, j, h => by
    simp only [place]
    split
    · exact ⟨_, rfl⟩
    · rename_i hne
      cases i with
      | zero => simp at h; exact absurd h hne
      | succ i =>
        obtain ⟨q, hq⟩ := place_some (keep := ks) (i := i) (j := j) (by simpa using h)
        rw [hq]; exact ⟨_, rfl⟩

theorem snap_not {os : List SO} {keep : List Nat} {args ys : List SV} (h : argVs os keep args = some ys) {j : Nat} (hj : j ∈ args.flatMap (snapIds keep)) : ∀ i : Nat, keep[i]? ≠ some j := by
  intro i hi
  obtain ⟨k, hk⟩ := place_some hi
  rw [List.mem_flatMap] at hj
  obtain ⟨x, hx, hj⟩ := hj
  obtain ⟨y, hy⟩ := notKeep_argV h x hx
  unfold snapIds at hj
  rw [List.mem_flatMap] at hj
  obtain ⟨z, hz, hj⟩ := hj
  obtain ⟨u, hu⟩ := notKeep_cells hy z hz
  split at hj
  · rename_i j'
    split at hj
    · simp at hj
    · rename_i hp
      simp at hj
      subst hj
      rw [hk] at hp; cases hp
  · rename_i j' lo hi'
    simp at hj
    subst hj
    simp only [argCell, hk] at hu
    cases hu
  · simp at hj

theorem freeze_own : ∀ (js : List Nat) {os os1 : List SO}, freeze js os = some os1 → ∀ j, j ∈ js → (os.getD j .dead).own = true := by
  intro js
  induction js with
  | nil => intro os os1 h j hj; simp at hj
  | cons k ks ih =>
    intro os os1 h j hj
    simp only [freeze] at h
    split at h
    · rename_i sz l hk
      by_cases e : j = k
      · subst e; rw [List.getD_eq_getElem?_getD, hk]; rfl
      · have := ih h j (by simpa [e] using hj)
        rw [List.getD_eq_getElem?_getD, List.getElem?_set, if_neg (fun e' => e e'.symm)] at this
        rw [List.getD_eq_getElem?_getD]; exact this
    · rename_i sz l hk
      by_cases e : j = k
      · subst e; rw [List.getD_eq_getElem?_getD, hk]; rfl
      · exact ih h j (by simpa [e] using hj)
    · simp at h

/-- A call, all in all. -/
theorem call_rep {c : Cx} (hK : KOK P c.K) {fr : Fr} {os os1 : List SO} {g : Nat → Gh} {w : World} (hm : Mem fr os g w) {f : Nat} {args : List SV} {vals : List Value} {y : SV} (ha : RepL w (Bk fr os g w) g args vals)
    (h : callS c os f args = some (y, os1)) : FnOK P f ∧ os.length ≤ os1.length ∧ Calls P f vals.toArray w fun e w' => ∃ v, e = .returned v ∧ Res fr os g w os1 y v w' := by
  unfold callS at h
  split at h
  · simp at h
  rename_i keep hkeep
  obtain ⟨hn, -, -⟩ := okKeep_of hkeep
  split at h
  · simp at h
  rename_i as has
  split at h
  rotate_left
  · simp at h
  rename_i hth
  split at h
  · simp at h
  rename_i r los hcall
  split at h
  · simp at h
  rename_i os0 hfrz
  split at h
  · simp at h
  rename_i os1' hgb
  split at h
  rotate_left
  · simp at h
  rename_i hown
  obtain ⟨rfl, rfl⟩ := Prod.mk.inj (Option.some.inj h)
  obtain ⟨hfn, hcalls⟩ := hK f as _ los r hcall
  have hll : (lent keep os).length = keep.length := by simp [lent, gcO]
  -- the objects as they stood
  have hfz : ∃ os0', True ∧ freeze (args.flatMap (snapIds keep)) os = some os0' ∧ os0 = os0' ∨ (hasSl3 r || los.any SO.hasSl) = false ∧ os0 = os := by
    split at hfrz
    · exact ⟨os0, .inl ⟨trivial, hfrz, rfl⟩⟩
    · rename_i hc
      have hc' := eq_false_of_ne_true hc
      rw [Bool.or_eq_false_iff] at hc'
      exact ⟨os, .inr ⟨hc'.2, (Option.some.inj hfrz).symm⟩⟩
  have main : ∀ (A : Nat → Prop), Mem fr os0 g w → Grow fr os g w os0 g w → os0.length = os.length → (∀ i j : Nat, keep[i]? = some j → os0[j]? = os[j]?) → (∀ b, Bk fr os g w b → A b) →
      (∀ j, j ∈ args.flatMap (snapIds keep) → ∀ lt sz l b, os[j]? = some (.arr lt sz l) → (g j).block? = some b → A b) →
      ((∀ b, b < w.heap.size → A b → (b < fr.N → fr.A b) ∧ ¬ live os0 g b) ∨ (hasSl3 r || los.any SO.hasSl) = false) →
      os.length ≤ (os1' ++ (los.drop keep.length).map (SO.ren (backName keep os.length))).length ∧ Calls P f vals.toArray w fun e w' => ∃ v, e = .returned v ∧ Res fr os g w (os1' ++ (los.drop keep.length).map (SO.ren (backName keep os.length))) (ren3 (backName keep os.length) r) v w' := by
    intro A hm0 hgr hlen hsame hA hsn hsl
    have hlen1 : os1'.length = os.length := by
      obtain ⟨b1, -, -⟩ := giveBack_of _ keep los os0 os1' hn hgb
      rw [b1, hlen]
    refine ⟨by simp [hlen1], ?_⟩
    have hmem := lent_mem hm hn hA
    have hargs := argVs_rep hm hA args ha has (fun x hx z hz j hj hk => hsn j (snap_mem hx hz hj hk))
    refine Calls.mono (hcalls A _ (gk g keep) vals w (fun b hb => hb) hmem hargs) ?_
    rintro e w' ⟨v, g', rfl, hmc, hg', hr, hle⟩
    have hle' : keep.length ≤ los.length := by
      have : (lent keep os).length ≤ los.length := hle
      rwa [hll] at this
    have hg'' : ∀ i, i < keep.length → gk g keep i ≠ .no → g' i = gk g keep i := fun i hi => hg' i (by
      have : i < (lent keep os).length := by rw [hll]; exact hi
      exact this)
    have hslb : (∀ b, b < w.heap.size → A b → (b < fr.N → fr.A b) ∧ ¬ live os0 g b) ∨ los.any SO.hasSl = false := hsl.imp_right fun h => by
      rw [Bool.or_eq_false_iff] at h; exact h.2
    have hslr : (∀ b, b < w.heap.size → A b → (b < fr.N → fr.A b) ∧ ¬ live os0 g b) ∨ hasSl3 r = false := hsl.imp_right fun h => by
      rw [Bool.or_eq_false_iff] at h; exact h.1
    obtain ⟨m, gr, rp⟩ := back_mem hm hn hm0 hlen hsame hth hmc hg'' hle' hgb hown hslb
    exact ⟨v, rfl, _, m, hgr.trans gr, rp r v hr hslr⟩
  obtain ⟨os0', ⟨hc, hf, rfl⟩ | ⟨hc, rfl⟩⟩ := hfz
  · obtain ⟨f1, f2, f3, f4, f5⟩ := freeze_of _ hm hf
    refine ⟨hfn, main (fun b => Bk fr os0 g w b) f1 f2 f3 (fun i j hi => ?_) f2.sub (fun j hj lt sz l b ho hb => ?_) (.inl fun b _ hb => hb.2)⟩
    · exact f4 j fun hj => snap_not has hj i hi
    · refine ⟨(hm.own b ⟨j, _, ho, rfl, hb⟩).1, fun hN => ?_, fun hl => ?_⟩
      · -- an array that was frozen is the frame's own
        obtain ⟨sz', l', hz⟩ := f5 j hj
        have hlt : lt = false := by
          have := freeze_own _ hf j hj
          rw [List.getD_eq_getElem?_getD, ho] at this
          cases lt
          · rfl
          · cases this
        subst hlt
        exact absurd hN (Nat.not_lt.2 (hm.mine j sz l b ho hb))
      · obtain ⟨k, o, hk, hkl, hkb⟩ := hl
        have hkn : k ∉ args.flatMap (snapIds keep) := fun hin => by
          obtain ⟨sz', l', hz⟩ := f5 k hin
          rw [hz] at hk; obtain rfl := Option.some.inj hk; cases hkl
        have hk' : os[k]? = some o := by rw [← f4 k hkn]; exact hk
        have := hm.inj k j o _ b hk' ho hkl rfl hkb hb
        subst this
        exact hkn hj
  · exact ⟨hfn, main (fun _ => True) hm (Grow.refl _ _ _ _) rfl (fun _ _ _ => rfl) (fun _ _ => trivial) (fun _ _ _ _ _ _ _ _ => trivial) (.inr hc)⟩

theorem call_ok {c : Cx} (hK : KOK P c.K) {fr : Fr} {os os1 : List SO} {g : Nat → Gh} {w : World} (hm : Mem fr os g w) {env : Env} {a : Act} (hs : Slots w (Bk fr os g w) g env a.tmps) {o : Oper} {f : Operand} {args : Array Operand} {ts : Array TypeId} {y : SV}
    (ho : o.op = .call { callee := .value f, args := args, argTypes := ts }) (hsz : ts.size = args.size) (h : calleeS c os (ev env f) ((args.toList.zip ts.toList).map (argO c.T env)) = some (y, os1)) :
    OpOK P fr os g w os1 y o a ∧ os.length ≤ os1.length := by
  unfold calleeS at h
  split at h
  · rename_i f' caps he
    have hf := ev_rep hs f
    rw [he] at hf
    generalize hfv : a.eval f = fv at hf
    cases hf with
    | fn h1 h2 =>
      rename_i vs
      have ha : RepL w (Bk fr os g w) g ((args.toList.zip ts.toList).map (argO c.T env) ++ caps) (args.toList.map a.eval ++ vs) :=
        (args_rep hs args.toList ts.toList (by simpa using hsz)).append ⟨h1, h2⟩
      obtain ⟨⟨fn, b, hfn, hname, hb⟩, hle, hcalls⟩ := call_rep hK hm ha h
      refine ⟨?_, hle⟩
      intro next Q hn
      have hrun : (execOp a.eval o).run P w = .ok (.enter f' (args.toList.map a.eval ++ vs).toArray) w := by
        have e : args.map a.eval ++ vs.toArray = (args.toList.map a.eval ++ vs).toArray := by
          apply Array.toList_inj.1; simp
        have hname' : ¬ fn.name = "runtime.NumGoroutine" := by simpa using hname
        simp [execOp, ho, resolve, hfv, Deferred.ofValue, invoke, callFunc, hfn, hname', hb, e]
      unfold Oper.wp
      rw [hrun]
      refine Calls.mono hcalls ?_
      rintro e w' ⟨v, rfl, hres⟩
      exact hn v w' hres
  · simp at h

theorem callOK {c : Cx} (hK : KOK P c.K) : CallOK P c :=
  fun fr os os1 g w env a o f args ts y hm hs ho hsz h => (call_ok hK hm hs ho hsz h).1

end Go.Proofs.Ytjfegdlgepbjoaa
