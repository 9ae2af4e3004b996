/- The evaluator S and what it says of functions: Sr, Ss, Su, Sv, Sw, Sx, Sy. -/
import Derived.Test.YtlnenahbffkbiaaSq
/- The evaluator S: calls of functions are sound, where the functions are. -/
namespace Go.Proofs.Ytlnenahbffkbiaa
open Go
set_option linter.unusedVariables false
set_option linter.unusedSimpArgs false
variable {P : Program} {T : Tab}
def FnOK (P : Program) (f : Nat) : Prop := ∃ fn b, P.funcs[f]? = some fn ∧ (fn.name == "runtime.NumGoroutine") = false ∧ fn.body = some b
def KOK1 (P : Program) (f : Nat) (K : List SV → List SO → Out) : Prop :=
  ∀ (args : List SV) (los los' : List SO) (r : SV), K args los = some (r, los') → FnOK P f ∧
    ∀ (A L : Nat → Prop) (g : Nat → Gh) (vals : List Value) (w : World), (∀ b, live los g b → L b) → Mem ⟨w.heap.size, A, L, w⟩ los g w → RepL w (Bk ⟨w.heap.size, A, L, w⟩ los g w) g args vals →
      Calls P f vals.toArray w fun e w' => ∃ v g', e = .returned v ∧ Mem ⟨w.heap.size, A, L, w⟩ los' g' w' ∧ (∀ j, j < los.length → g j ≠ .no → g' j = g j) ∧
        RepV w' (Bk ⟨w.heap.size, A, L, w⟩ los' g' w') g' r v ∧ los.length ≤ los'.length
def KOK (P : Program) (K : Nat → List SV → List SO → Out) : Prop := ∀ f, KOK1 P f (K f)
theorem argO_rep {w : World} {B : Nat → Prop} {g : Nat → Gh} {env : Env} {a : Act} (hs : Slots w B g env a.tmps) (p : Operand × Nat) : RepV w B g (argO T env p) (a.eval p.1) := by
  obtain ⟨x, t⟩ := p
  unfold argO
  split
  · rename_i h
    simp only at h
    subst h
    unfold nilA
    split
    · split
      · exact .sl0
      · exact .dead
    · exact .dead
  · exact ev_rep hs x
theorem args_rep {w : World} {B : Nat → Prop} {g : Nat → Gh} {env : Env} {a : Act} (hs : Slots w B g env a.tmps) : ∀ (l : List Operand) (ts : List Nat), ts.length = l.length →
    RepL w B g ((l.zip ts).map (argO T env)) (l.map a.eval) := by
  intro l ts h
  refine ⟨by simp [h], fun i x v h1 h2 => ?_⟩
  rw [List.getElem?_map] at h1 h2
  obtain ⟨p, hp, rfl⟩ := Option.map_eq_some_iff.1 h1
  obtain ⟨y, hy, rfl⟩ := Option.map_eq_some_iff.1 h2
  have := List.getElem?_zip_eq_some.1 hp
  rw [hy] at this
  have e : p.1 = y := (Option.some.inj this.1).symm
  rw [← e]
  exact argO_rep hs p
theorem snap_mem {keep : List Nat} {x y : SV} {args : List SV} {j : Nat} (hx : x ∈ args) (hy : y ∈ x.cells) (hj : y = .osl j ∨ ∃ lo hi, y = .vw j lo hi) (hk : ∀ i : Nat, keep[i]? ≠ some j) : j ∈ args.flatMap (snapIds keep) := by
  rw [List.mem_flatMap]
  refine ⟨x, hx, ?_⟩
  unfold snapIds
  rw [List.mem_flatMap]
  refine ⟨y, hy, ?_⟩
  rcases hj with rfl | ⟨lo, hi, rfl⟩
  · simp only
    split
    · rename_i i hi
      exact absurd (place_get hi) (hk i)
    · simp
  · simp
theorem notKeep_argV {os : List SO} {keep : List Nat} : ∀ {xs ys : List SV}, argVs os keep xs = some ys → ∀ x, x ∈ xs → ∃ y, argV os keep x = some y
  | [], _, _, x, hx => by simp at hx
  | z :: zs, ys, h, x, hx => by
    simp only [argVs] at h
    split at h
    · rename_i y ys' hy hys
      rcases List.mem_cons.1 hx with rfl | hx
      · exact ⟨y, hy⟩
      · exact notKeep_argV hys x hx
    · simp at h
theorem notKeep_argCell {os : List SO} {keep : List Nat} : ∀ {xs ys : List SV}, argCells os keep xs = some ys → ∀ x, x ∈ xs → ∃ y, argCell os keep x = some y
  | [], _, _, x, hx => by simp at hx
  | z :: zs, ys, h, x, hx => by
    simp only [argCells] at h
    split at h
    · rename_i y ys' hy hys
      rcases List.mem_cons.1 hx with rfl | hx
      · exact ⟨y, hy⟩
      · exact notKeep_argCell hys x hx
    · simp at h
theorem notKeep_cells {os : List SO} {keep : List Nat} {x y : SV} (h : argV os keep x = some y) : ∀ z, z ∈ x.cells → ∃ y, argCell os keep z = some y := by
  intro z hz
  unfold argV at h
  split at h
  · split at h
    · rename_i l ys hys
      exact notKeep_argCell hys z hz
    · simp at h
  · rename_i hna
    have e : x.cells = [x] := by cases x <;> first | rfl | exact absurd rfl (hna _)
    rw [e] at hz
    simp at hz
    subst hz
    exact ⟨y, h⟩
theorem place_some : ∀ {keep : List Nat} {i j : Nat}, keep[i]? = some j → ∃ k, place keep j = some k
  | [], i, j, h => by simp at h
  | k :: ks, i, j, h => by
    simp only [place]
    split
    · exact ⟨_, rfl⟩
    · rename_i hne
      cases i with
      | zero => simp at h; exact absurd h hne
      | succ i =>
        obtain ⟨q, hq⟩ := place_some (keep := ks) (i := i) (j := j) (by simpa using h)
        rw [hq]; exact ⟨_, rfl⟩
theorem snap_not {os : List SO} {keep : List Nat} {args ys : List SV} (h : argVs os keep args = some ys) {j : Nat} (hj : j ∈ args.flatMap (snapIds keep)) : ∀ i : Nat, keep[i]? ≠ some j := by
  intro i hi
  obtain ⟨k, hk⟩ := place_some hi
  rw [List.mem_flatMap] at hj
  obtain ⟨x, hx, hj⟩ := hj
  obtain ⟨y, hy⟩ := notKeep_argV h x hx
  unfold snapIds at hj
  rw [List.mem_flatMap] at hj
  obtain ⟨z, hz, hj⟩ := hj
  obtain ⟨u, hu⟩ := notKeep_cells hy z hz
  split at hj
  · rename_i j'
    split at hj
    · simp at hj
    · rename_i hp
      simp at hj
      subst hj
      rw [hk] at hp; cases hp
  · rename_i j' lo hi'
    simp at hj
    subst hj
    simp only [argCell, hk] at hu
    cases hu
  · simp at hj
theorem freeze_own : ∀ (js : List Nat) {os os1 : List SO}, freeze js os = some os1 → ∀ j, j ∈ js → (os.getD j .dead).own = true := by
  intro js
  induction js with
  | nil => intro os os1 h j hj; simp at hj
  | cons k ks ih =>
    intro os os1 h j hj
    simp only [freeze] at h
    split at h
    · rename_i sz l hk
      by_cases e : j = k
      · subst e; rw [List.getD_eq_getElem?_getD, hk]; rfl
      · have := ih h j (by simpa [e] using hj)
        rw [List.getD_eq_getElem?_getD, List.getElem?_set, if_neg (fun e' => e e'.symm)] at this
        rw [List.getD_eq_getElem?_getD]; exact this
    · rename_i sz l hk
      by_cases e : j = k
      · subst e; rw [List.getD_eq_getElem?_getD, hk]; rfl
      · exact ih h j (by simpa [e] using hj)
    · simp at h
theorem call_rep {c : Cx} (hK : KOK P c.K) {fr : Fr} {os os1 : List SO} {g : Nat → Gh} {w : World} (hm : Mem fr os g w) {f : Nat} {args : List SV} {vals : List Value} {y : SV} (ha : RepL w (Bk fr os g w) g args vals)
    (h : callS c os f args = some (y, os1)) : FnOK P f ∧ os.length ≤ os1.length ∧ Calls P f vals.toArray w fun e w' => ∃ v, e = .returned v ∧ Res fr os g w os1 y v w' := by
  unfold callS at h
  split at h
  · simp at h
  rename_i keep hkeep
  obtain ⟨hn, -, -⟩ := okKeep_of hkeep
  split at h
  · simp at h
  rename_i as has
  split at h
  rotate_left
  · simp at h
  rename_i hth
  split at h
  · simp at h
  rename_i r los hcall
  split at h
  · simp at h
  rename_i os0 hfrz
  split at h
  · simp at h
  rename_i os1' hgb
  split at h
  rotate_left
  · simp at h
  rename_i hown
  obtain ⟨rfl, rfl⟩ := Prod.mk.inj (Option.some.inj h)
  obtain ⟨hfn, hcalls⟩ := hK f as _ los r hcall
  have hll : (lent keep os).length = keep.length := by simp [lent, gcO]
  have hfz : ∃ os0', True ∧ freeze (args.flatMap (snapIds keep)) os = some os0' ∧ os0 = os0' ∨ (hasSl3 r || los.any SO.hasSl) = false ∧ os0 = os := by
    split at hfrz
    · exact ⟨os0, .inl ⟨trivial, hfrz, rfl⟩⟩
    · rename_i hc
      have hc' := eq_false_of_ne_true hc
      rw [Bool.or_eq_false_iff] at hc'
      exact ⟨os, .inr ⟨hc'.2, (Option.some.inj hfrz).symm⟩⟩
  have main : ∀ (A : Nat → Prop), Mem fr os0 g w → Grow fr os g w os0 g w → os0.length = os.length → (∀ i j : Nat, keep[i]? = some j → os0[j]? = os[j]?) → (∀ b, Bk fr os g w b → A b) →
      (∀ j, j ∈ args.flatMap (snapIds keep) → ∀ lt sz l b, os[j]? = some (.arr lt sz l) → (g j).block? = some b → A b) →
      ((∀ b, b < w.heap.size → A b → (b < fr.N → fr.A b) ∧ ¬ live os0 g b) ∨ (hasSl3 r || los.any SO.hasSl) = false) →
      os.length ≤ (os1' ++ (los.drop keep.length).map (fun o => (o.ren (backName keep os.length)).back (anyLent os keep))).length ∧ Calls P f vals.toArray w fun e w' => ∃ v, e = .returned v ∧ Res fr os g w (os1' ++ (los.drop keep.length).map (fun o => (o.ren (backName keep os.length)).back (anyLent os keep))) (ren3 (backName keep os.length) r) v w' := by
    intro A hm0 hgr hlen hsame hA hsn hsl
    have hlen1 : os1'.length = os.length := by
      obtain ⟨b1, -, -⟩ := giveBack_of _ keep los os0 os1' hn hgb
      rw [b1, hlen]
    refine ⟨by simp [hlen1], ?_⟩
    have hmem := lent_mem hm hn hA
    have hargs := argVs_rep hm hA args ha has (fun x hx z hz j hj hk => hsn j (snap_mem hx hz hj hk))
    refine Calls.mono (hcalls A _ (gk g keep) vals w (fun b hb => hb) hmem hargs) ?_
    rintro e w' ⟨v, g', rfl, hmc, hg', hr, hle⟩
    have hle' : keep.length ≤ los.length := by
      have : (lent keep os).length ≤ los.length := hle
      rwa [hll] at this
    have hg'' : ∀ i, i < keep.length → gk g keep i ≠ .no → g' i = gk g keep i := fun i hi => hg' i (by
      have : i < (lent keep os).length := by rw [hll]; exact hi
      exact this)
    have hslb : (∀ b, b < w.heap.size → A b → (b < fr.N → fr.A b) ∧ ¬ live os0 g b) ∨ los.any SO.hasSl = false := hsl.imp_right fun h => by
      rw [Bool.or_eq_false_iff] at h; exact h.2
    have hslr : (∀ b, b < w.heap.size → A b → (b < fr.N → fr.A b) ∧ ¬ live os0 g b) ∨ hasSl3 r = false := hsl.imp_right fun h => by
      rw [Bool.or_eq_false_iff] at h; exact h.1
    obtain ⟨m, gr, rp⟩ := back_mem hm hn hm0 hlen hsame hth hmc hg'' hle' hgb hslb
    exact ⟨v, rfl, _, m, hgr.trans gr, rp r v hr hslr⟩
  obtain ⟨os0', ⟨hc, hf, rfl⟩ | ⟨hc, rfl⟩⟩ := hfz
  · obtain ⟨f1, f2, f3, f4, f5⟩ := freeze_of _ hm hf
    refine ⟨hfn, main (fun b => Bk fr os0 g w b) f1 f2 f3 (fun i j hi => ?_) f2.sub (fun j hj lt sz l b ho hb => ?_) (.inl fun b _ hb => hb.2)⟩
    · exact f4 j fun hj => snap_not has hj i hi
    · refine ⟨(hm.own b ⟨j, _, ho, rfl, hb⟩).1, fun hN => ?_, fun hl => ?_⟩
      · -- an array that was frozen is the frame's own
        obtain ⟨sz', l', hz⟩ := f5 j hj
        have hlt : lt = false := by
          have := freeze_own _ hf j hj
          rw [List.getD_eq_getElem?_getD, ho] at this
          cases lt
          · rfl
          · cases this
        subst hlt
        exact absurd hN (Nat.not_lt.2 (hm.mine j sz l b ho hb))
      · obtain ⟨k, o, hk, hkl, hkb⟩ := hl
        have hkn : k ∉ args.flatMap (snapIds keep) := fun hin => by
          obtain ⟨sz', l', hz⟩ := f5 k hin
          rw [hz] at hk; obtain rfl := Option.some.inj hk; cases hkl
        have hk' : os[k]? = some o := by rw [← f4 k hkn]; exact hk
        have := hm.inj k j o _ b hk' ho hkl rfl hkb hb
        subst this
        exact hkn hj
  · exact ⟨hfn, main (fun _ => True) hm (Grow.refl _ _ _ _) rfl (fun _ _ _ => rfl) (fun _ _ => trivial) (fun _ _ _ _ _ _ _ _ => trivial) (.inr hc)⟩
theorem call_ok {c : Cx} (hK : KOK P c.K) {fr : Fr} {os os1 : List SO} {g : Nat → Gh} {w : World} (hm : Mem fr os g w) {env : Env} {a : Act} (hs : Slots w (Bk fr os g w) g env a.tmps) {o : Oper} {f : Operand} {args : Array Operand} {ts : Array TypeId} {y : SV}
    (ho : o.op = .call { callee := .value f, args := args, argTypes := ts }) (hsz : ts.size = args.size) (h : calleeS c os (ev env f) ((args.toList.zip ts.toList).map (argO c.T env)) = some (y, os1)) :
    OpOK P fr os g w os1 y o a ∧ os.length ≤ os1.length := by
  unfold calleeS at h
  split at h
  · rename_i f' caps he
    have hf := ev_rep hs f
    rw [he] at hf
    generalize hfv : a.eval f = fv at hf
    cases hf with
    | fn h1 h2 =>
      rename_i vs
      have ha : RepL w (Bk fr os g w) g ((args.toList.zip ts.toList).map (argO c.T env) ++ caps) (args.toList.map a.eval ++ vs) :=
        (args_rep hs args.toList ts.toList (by simpa using hsz)).append ⟨h1, h2⟩
      obtain ⟨⟨fn, b, hfn, hname, hb⟩, hle, hcalls⟩ := call_rep hK hm ha h
      refine ⟨?_, hle⟩
      intro next Q hn
      have hrun : (execOp a.eval o).run P w = .ok (.enter f' (args.toList.map a.eval ++ vs).toArray) w := by
        have e : args.map a.eval ++ vs.toArray = (args.toList.map a.eval ++ vs).toArray := by
          apply Array.toList_inj.1; simp
        have hname' : ¬ fn.name = "runtime.NumGoroutine" := by simpa using hname
        simp [execOp, ho, resolve, hfv, Deferred.ofValue, invoke, callFunc, hfn, hname', hb, e]
      unfold Oper.wp
      rw [hrun]
      refine Calls.mono hcalls ?_
      rintro e w' ⟨v, rfl, hres⟩
      exact hn v w' hres
  · simp at h
theorem callOK {c : Cx} (hK : KOK P c.K) : CallOK P c :=
  fun fr os os1 g w env a o f args ts y hm hs ho hsz h => (call_ok hK hm hs ho hsz h).1
end Go.Proofs.Ytlnenahbffkbiaa

/- The evaluator S: no operation takes an object away. -/
namespace Go.Proofs.Ytlnenahbffkbiaa
open Go
set_option linter.unusedVariables false
set_option linter.unusedSimpArgs false
variable {P : Program} {T : Tab}
theorem zeroS_len : ∀ (z : List ZK) (os : List SO), os.length ≤ (zeroS z os).2.length
  | [], os => Nat.le_refl _
  | .sl sz :: zs, os => by
    simp only [zeroS]
    have := zeroS_len zs (os ++ [.arr false sz []])
    simp at this; omega
  | .int _ :: zs, os => zeroS_len zs os
  | .bool :: zs, os => zeroS_len zs os
  | .str :: zs, os => zeroS_len zs os
  | .fn :: zs, os => zeroS_len zs os
  | .ptr :: zs, os => zeroS_len zs os
theorem pureCell_len {os os1 : List SO} {x y : SV} (h : pureCell os x = some (y, os1)) : os.length = os1.length := by
  unfold pureCell at h
  split at h
  · cases h; rfl
  · cases h; rfl
  · split at h
    · cases h; simp
    · cases h; rfl
    · cases h
  · split at h
    · split at h
      · cases h; simp
      · cases h
    · split at h
      · cases h; rfl
      · cases h
    · cases h
  · cases h
theorem deVw_len {os os1 : List SO} {x y : SV} (h : deVw os x = some (y, os1)) : os.length = os1.length := by
  unfold deVw at h
  split at h
  · exact pureCell_len h
  · cases h; rfl
theorem pureCells_len : ∀ {l : List SV} {os os1 : List SO} {ys : List SV}, pureCells l os = some (ys, os1) → os.length = os1.length
  | [], _, _, _, h => by simp [pureCells] at h; rw [h.2]
  | x :: xs, os, os1, ys, h => by
    simp only [pureCells] at h
    split at h
    · rename_i y os2 hy
      split at h
      · rename_i ys' os3 hys
        cases h
        exact (pureCell_len hy).trans (pureCells_len hys)
      · cases h
    · cases h
theorem pureS_len {os os1 : List SO} {x y : SV} (h : pureS os x = some (y, os1)) : os.length = os1.length := by
  unfold pureS at h
  split at h
  · split at h
    · rename_i hys; cases h; exact pureCells_len hys
    · cases h
  · exact pureCell_len h
theorem pureL_len : ∀ {l : List SV} {os os1 : List SO} {ys : List SV}, pureL l os = some (ys, os1) → os.length = os1.length
  | [], _, _, _, h => by simp [pureL] at h; rw [h.2]
  | x :: xs, os, os1, ys, h => by
    simp only [pureL] at h
    split at h
    · rename_i y os2 hy
      split at h
      · rename_i ys' os3 hys
        cases h
        exact (pureS_len hy).trans (pureL_len hys)
      · cases h
    · cases h
theorem storeS_len {os os1 : List SO} {t : Nat} {p x : SV} (h : storeS T os t p x = some os1) : os.length = os1.length := by
  unfold storeS at h
  split at h
  · split at h
    · split at h
      · split at h
        · split at h
          · cases h; simp
          · cases h
        · cases h
      · split at h
        · rename_i hys
          have hl := pureCells_len hys
          split at h
          · split at h
            · split at h
              · split at h
                · cases h; simp [hl]
                · cases h
              · cases h
            · cases h
          · cases h
        · cases h
      · cases h
    · cases h
  · cases h
theorem partsN_len {fs : List (Nat × Nat)} : ∀ {ps : List (Nat × Option SV)} {os os1 : List SO} {r : List (Nat × SV)}, partsN T fs ps os = some (r, os1) → os.length ≤ os1.length
  | [], _, _, _, h => by simp [partsN] at h; rw [h.2]; exact Nat.le_refl _
  | (f, x) :: ps, os, os1, r, h => by
    simp only [partsN] at h
    split at h
    · split at h
      · rename_i hy
        split at h
        · split at h
          · rename_i hps
            cases h
            exact Nat.le_trans (evN_len hy) (partsN_len hps)
          · cases h
        · cases h
      · cases h
    · cases h
theorem op_len {c : Cx} {os os1 : List SO} {env : Env} {o : Oper} {y : SV}
    (hcall : ∀ (f : Operand) (args : Array Operand) (ts : Array TypeId), o.op = .call { callee := .value f, args := args, argTypes := ts } → ts.size = args.size → calleeS c os (ev env f) ((args.toList.zip ts.toList).map (argO c.T env)) = some (y, os1) → os.length ≤ os1.length)
    (h : opS c env os o = some (y, os1)) : os.length ≤ os1.length := by
  have R : ∀ {x : Option SV}, ret1 x os = some (y, os1) → os.length ≤ os1.length := fun h => by rw [(ret1_eq h).2]; exact Nat.le_refl _
  unfold opS at h
  split at h
  · exact evN_len h
  · exact evN_len h
  · exact R h
  · unfold allocS at h
    split at h
    · rename_i i hi
      cases h
      have := zeroS_len i.zero os
      simp; omega
    · cases h
  · unfold boxS at h
    split at h
    · rename_i hy
      split at h
      · cases h; have := evN_len hy; simp; omega
      · cases h
    · cases h
  · unfold buildS at h
    split at h
    · split at h
      · split at h
        · rename_i hp
          simp only at h
          split at h
          · cases h
            exact Nat.le_trans (partsN_len hp) (zeroS_len _ _)
          · cases h
        · cases h
      · cases h
    · cases h
  · unfold buildSliceS at h
    split at h
    · split at h
      · split at h
        · split at h
          · rename_i hp
            split at h
            · cases h; have := pureL_len hp; simp; omega
            · cases h
          · cases h
        · cases h
      · cases h
    · cases h
  · exact R h
  · unfold storeO at h
    split at h
    · rename_i hz
      split at h
      · rename_i hd
        split at h
        · rename_i hs
          cases h
          have := storeS_len hs
          have := evN_len hz
          have := deVw_len hd
          omega
        · cases h
      · cases h
    · cases h
  · exact R h
  · exact R h
  · exact R h
  · unfold convS at h
    split at h
    · cases h; exact Nat.le_refl _
    · split at h
      · split at h
        · cases h; exact Nat.le_refl _
        · cases h
      · cases h
    · split at h
      · cases h; simp
      · cases h
    · cases h; exact Nat.le_refl _
    · cases h
  · unfold makeS at h
    split at h
    · split at h
      · split at h
        · split at h
          · cases h; simp
          · cases h
        · cases h
      · cases h
    · cases h
  · exact R h
  · exact R h
  · exact R h
  · exact R h
  · exact R h
  · exact R h
  · exact R h
  · split at h
    · cases h; exact Nat.le_refl _
    · cases h
  · split at h
    · unfold builtinS at h
      split at h
      · unfold lenO at h
        split at h
        · cases h; exact Nat.le_refl _
        · cases h
      · unfold appendS at h
        split at h
        · split at h
          · split at h
            · cases h; simp
            · cases h
          · cases h
        · cases h
      · unfold copyS at h
        split at h
        · split at h
          · split at h
            · cases h; simp
            · cases h
          · cases h
        · split at h
          · split at h
            · cases h; simp
            · cases h
          · cases h
        · cases h
      · exact R h
      · exact R h
      · cases h
    · cases h
  · rename_i f args ts ho
    split at h
    · rename_i hsz
      exact hcall f args ts ho hsz h
    · cases h
  · cases h
theorem ops_ok {c : Cx} (hT : TabOk P c.T) (hK : KOK P c.K) : OpsOK P c := by
  intro fr os os1 g w env a o y hm hs h
  refine ⟨op_rep hT (callOK hK) hm hs h, op_len (fun f args ts ho hsz hc => ?_) h⟩
  exact (call_ok hK hm hs ho hsz hc).2
end Go.Proofs.Ytlnenahbffkbiaa

/- The evaluator S: regions whose order is drawn. First: what an operation hangs on. -/
namespace Go.Proofs.Ytlnenahbffkbiaa
open Go
set_option linter.unusedVariables false
set_option linter.unusedSimpArgs false
variable {P : Program} {T : Tab}
theorem evP_congr {env env' : Env} {x : Operand} (h : ev env x = ev env' x) : evP env x = evP env' x := by
  unfold evP
  split
  · rfl
  · rw [h]
theorem argO_congr {env env' : Env} {p : Operand × Nat} (h : ev env p.1 = ev env' p.1) : argO T env p = argO T env' p := by
  unfold argO
  split
  · rfl
  · exact h
theorem map_congr' {α β : Type} {f g : α → β} : ∀ (l : List α), (∀ x, x ∈ l → f x = g x) → l.map f = l.map g := fun l h => List.map_congr_left h
theorem opS_congr {c : Cx} {env env' : Env} {os : List SO} {o : Oper} (h : ∀ x, x ∈ o.op.operands → ev env x = ev env' x) : opS c env os o = opS c env' os o := by
  obtain ⟨dst, op, type, pos, after, guard⟩ := o
  have hP : ∀ x, x ∈ op.operands → evP env x = evP env' x := fun x hx => evP_congr (h x hx)
  cases op <;> simp only [Op.operands] at h hP
  case move x => simp only [opS, hP x (by simp)]
  case assign x => simp only [opS, hP x (by simp)]
  case pick b x y => simp only [opS, h b (by simp), h x (by simp), h y (by simp)]
  case alloc t => rfl
  case box t x => simp only [opS, hP x (by simp)]
  case build t ps =>
    have : ps.toList.map (fun p => (p.1, evP env p.2)) = ps.toList.map (fun p => (p.1, evP env' p.2)) := map_congr' _ fun p hp => by
      rw [hP p.2 (by simp only [List.mem_toArray, List.mem_map]; exact ⟨p, hp, rfl⟩)]
    simp only [opS, this]
  case buildSlice t n ps =>
    have : ps.toList.map (fun p => (p.1, ev env p.2)) = ps.toList.map (fun p => (p.1, ev env' p.2)) := map_congr' _ fun p hp => by
      rw [h p.2 (by simp only [List.mem_toArray, List.mem_map]; exact ⟨p, hp, rfl⟩)]
    simp only [opS, this]
  case load t x => simp only [opS, h x (by simp)]
  case store t x y => simp only [opS, h x (by simp), hP y (by simp)]
  case nilCheck x => simp only [opS, h x (by simp)]
  case binOp b t x y z => simp only [opS, h x (by simp), h y (by simp)]
  case unOp u t x => simp only [opS, h x (by simp)]
  case convert s d x => simp only [opS, h x (by simp)]
  case makeSlice t x y => simp only [opS, h x (by simp), h y (by simp)]
  case slice t x lo hi mx =>
    cases mx with
    | some m =>
      cases lo with
      | some l => rfl
      | none =>
        cases hi with
        | none => rfl
        | some z => simp only [opS, h x (by simp), h z (by simp), h m (by simp)]
    | none =>
      have h1 : lo.map (ev env) = lo.map (ev env') := by
        cases lo with
        | none => rfl
        | some z => simp only [Option.map_some, h z (by simp)]
      have h2 : hi.map (ev env) = hi.map (ev env') := by
        cases hi with
        | none => rfl
        | some z => simp only [Option.map_some, h z (by simp)]
      simp only [opS, h x (by simp), h1, h2]
  case fieldAddr t x f => simp only [opS, h x (by simp)]
  case field t x f => simp only [opS, h x (by simp)]
  case indexAddr t x y => simp only [opS, h x (by simp), h y (by simp)]
  case index t x y => simp only [opS, h x (by simp), h y (by simp)]
  case extract x i => simp only [opS, h x (by simp)]
  case makeFunc fn first captured =>
    have : captured.toList.map (ev env) = captured.toList.map (ev env') := map_congr' _ fun p hp => h p (by simp at hp; simp [hp])
    cases fn <;> simp only [opS, this]
  case call cl =>
    obtain ⟨callee, args, ats⟩ := cl
    cases callee with
    | invoke r m => rfl
    | builtin b =>
      have : args.toList.map (ev env) = args.toList.map (ev env') := map_congr' _ fun p hp => h p (by simp at hp; simp [Call.operands, hp])
      simp only [opS, this]
    | value f =>
      have : (args.toList.zip ats.toList).map (argO c.T env) = (args.toList.zip ats.toList).map (argO c.T env') := map_congr' _ fun p hp => argO_congr (h p.1 (by
        have := (List.of_mem_zip hp).1
        simp at this; simp [Call.operands, this]))
      simp only [opS, this, h f (by simp [Call.operands])]
  all_goals rfl
theorem look_kill_in (env : Env) (t : Nat) : ∀ (al : List Nat), t ∈ al → look t (killS al env) = look t env := by
  intro al
  induction al with
  | nil => intro h; cases h
  | cons x xs ih =>
    intro h
    simp only [killS, look]
    split
    · rename_i e; rw [Nat.eq_of_beq_eq_true e]
    · rename_i e
      rcases List.mem_cons.1 h with rfl | h
      · rw [Nat.beq_refl] at e; cases e
      · exact ih h
theorem look_kill_or (env : Env) (t : Nat) : ∀ (al : List Nat), (t ∈ al ∧ look t (killS al env) = look t env) ∨ look t (killS al env) = .dead := by
  intro al
  by_cases h : t ∈ al
  · exact .inl ⟨h, look_kill_in env t al h⟩
  · refine .inr ?_
    induction al with
    | nil => rfl
    | cons x xs ih =>
      simp only [killS, look]
      split
      · rename_i e; rw [Nat.eq_of_beq_eq_true e] at h; simp at h
      · exact ih (fun hh => h (List.mem_cons_of_mem _ hh))
theorem ev_kill {env : Env} {al : List Nat} {x : Operand} (h : ∀ t, x = .tmp t → t ∈ al) : ev (killS al env) x = ev env x := by
  cases x with
  | tmp t => exact look_kill_in env t al (h t rfl)
  | const v => rfl
  | func f => rfl
  | global g => rfl
theorem op1_kill {c : Cx} {ops : List Oper} {env : Env} {os : List SO} {o : Oper} : op1 c ops (killS (tmpsOf ops o) env) os o = op1 c ops env os o := by
  have hop : opS c (killS (tmpsOf ops o) env) os o = opS c env os o := opS_congr fun x hx => ev_kill fun t e => by
    subst e
    unfold tmpsOf
    refine List.mem_append.2 (.inl (List.mem_filterMap.2 ⟨_, by simpa using hx, rfl⟩))
  unfold op1
  cases hg : o.guard with
  | none => exact hop
  | some p =>
    obtain ⟨j, want⟩ := p
    have hgv : guardV ops (killS (tmpsOf ops o) env) j = guardV ops env j := by
      unfold guardV
      cases hj : ops[j]? with
      | none => rfl
      | some q =>
        cases hd : q.dst with
        | none => simp only [hd]
        | some t =>
          simp only [hd]
          refine look_kill_in env t _ ?_
          unfold tmpsOf
          refine List.mem_append.2 (.inr ?_)
          simp [hg, hj, hd]
    simp only [hop, hgv]
theorem p_any {c : Cx} {env : Env} {os os1 : List SO} {o : Oper} {x : SV} (hc : cls c.T o.op = .p) (h : opS c env os o = some (x, os1)) :
    os1 = os ∧ ∀ os2, opS c env os2 o = some (x, os2) := by
  have R : ∀ {y : Option SV}, ret1 y os = some (x, os1) → os1 = os ∧ ∀ os2, ret1 y os2 = some (x, os2) := fun h => by
    obtain ⟨h1, h2⟩ := ret1_eq h
    exact ⟨h2, fun os2 => by rw [h1]; rfl⟩
  obtain ⟨dst, op, type, pos, after, guard⟩ := o
  have N : ∀ y : Operand, y ≠ .const (.slice none 0 0) → ∀ os, evN c.T type os (evP env y) = some (ev env y, os) := fun y hy os => by
    unfold evP
    split
    · exact absurd rfl hy
    · rfl
  cases op <;> simp only [opS] at h ⊢
  case move y =>
    have hy : y ≠ .const (.slice none 0 0) := fun e => by subst e; simp [cls] at hc
    rw [N y hy] at h; cases h
    exact ⟨rfl, fun os2 => N y hy os2⟩
  case assign y =>
    have hy : y ≠ .const (.slice none 0 0) := fun e => by subst e; simp [cls] at hc
    rw [N y hy] at h; cases h
    exact ⟨rfl, fun os2 => N y hy os2⟩
  case pick b y z => exact R h
  case nilCheck y => exact R h
  case binOp b t y z u => exact R h
  case unOp u t y => exact R h
  case fieldAddr t y f => exact R h
  case field t y f => exact R h
  case index t y z => exact R h
  case extract y i => exact R h
  case makeFunc fn first captured =>
    cases fn with
    | func f =>
      simp only at h ⊢
      split at h
      · rename_i hf; cases h; exact ⟨rfl, fun os2 => by first | rfl | simp [hf]⟩
      · cases h
    | _ => cases h
  case convert s d y =>
    simp only [cls] at hc
    split at hc
    · rename_i k k' h1 h2
      unfold convS at h ⊢
      simp only [h1, h2] at h ⊢
      split at h
      · rename_i e1 e2 e3; cases h; cases e1; cases e2; simp [e3]
      · rename_i e1 e2; cases e1
      · rename_i e1 e2; cases e1
      · rename_i e1 e2; cases e1
      · cases h
    · cases hc
  case call cl =>
    obtain ⟨callee, args, ats⟩ := cl
    cases callee with
    | builtin b =>
      simp only at h ⊢
      split at h
      · rename_i hsz
        cases b <;> simp [cls] at hc
        all_goals
          unfold builtinS at h ⊢
          split at h <;> first | (rename_i e1 e2; cases e1; done) | (cases h; done) | skip
          rename_i e2
          refine ⟨(R h).1, fun os2 => ?_⟩
          rw [if_pos hsz]
          exact (R h).2 os2
      · cases h
    | value f => simp [cls] at hc
    | invoke r m => simp [cls] at hc; try cases h
  all_goals first | (simp [cls] at hc; done) | (cases h; done)
end Go.Proofs.Ytlnenahbffkbiaa

/- The evaluator S: regions whose order is drawn. What is kept beside a read; the static check. -/
namespace Go.Proofs.Ytlnenahbffkbiaa
open Go
set_option linter.unusedVariables false
set_option linter.unusedSimpArgs false
variable {P : Program} {T : Tab}
def KeptB (q : Nat) (os os1 : List SO) : Prop := os.length ≤ os1.length ∧ (q < os.length → ∀ l, os[q]? = some (.box l) ↔ os1[q]? = some (.box l))
theorem KeptB.refl (q : Nat) (os : List SO) : KeptB q os os := ⟨Nat.le_refl _, fun _ _ => Iff.rfl⟩
theorem KeptB.trans {q : Nat} {os os1 os2 : List SO} (h : KeptB q os os1) (h' : KeptB q os1 os2) : KeptB q os os2 :=
  ⟨Nat.le_trans h.1 h'.1, fun hq l => (h.2 hq l).trans (h'.2 (Nat.lt_of_lt_of_le hq h.1) l)⟩
theorem KeptB.app (q : Nat) (os r : List SO) : KeptB q os (os ++ r) :=
  ⟨by simp, fun hq l => by rw [List.getElem?_append_left hq]⟩
theorem evN_kept {q ty : Nat} {os os' : List SO} {x : Option SV} {y : SV} (h : evN T ty os x = some (y, os')) : KeptB q os os' := by
  unfold evN at h
  split at h
  · split at h
    · split at h
      · obtain ⟨_, rfl⟩ := Prod.mk.inj (Option.some.inj h); exact KeptB.app _ _ _
      · simp at h
    · simp at h
  · obtain ⟨_, rfl⟩ := Prod.mk.inj (Option.some.inj h); exact KeptB.refl _ _
theorem zeroS_kept {q : Nat} : ∀ (z : List ZK) (os : List SO), KeptB q os (zeroS z os).2
  | [], os => KeptB.refl _ _
  | .sl sz :: zs, os => by
    simp only [zeroS]
    exact (KeptB.app _ _ _).trans (zeroS_kept zs (os ++ [.arr false sz []]))
  | .int _ :: zs, os => zeroS_kept zs os
  | .bool :: zs, os => zeroS_kept zs os
  | .str :: zs, os => zeroS_kept zs os
  | .fn :: zs, os => zeroS_kept zs os
  | .ptr :: zs, os => zeroS_kept zs os
theorem frz_kept {q j sz : Nat} {os : List SO} {l : List SV} {b : Bool} (hj : os[j]? = some (.arr b sz l)) : KeptB q os (os.set j (.frz sz l)) := by
  refine ⟨by simp, fun hq l' => ?_⟩
  rw [List.getElem?_set]
  by_cases e : j = q
  · subst e
    rw [if_pos rfl, hj]
    split <;> simp
  · rw [if_neg e]
theorem pureCell_kept {q : Nat} {os os1 : List SO} {x y : SV} (h : pureCell os x = some (y, os1)) : KeptB q os os1 := by
  unfold pureCell at h
  split at h
  · cases h; exact KeptB.refl _ _
  · cases h; exact KeptB.refl _ _
  · split at h
    · rename_i hj; cases h; exact frz_kept hj
    · cases h; exact KeptB.refl _ _
    · cases h
  · split at h
    · rename_i hj
      split at h
      · cases h; exact frz_kept hj
      · cases h
    · split at h
      · cases h; exact KeptB.refl _ _
      · cases h
    · cases h
  · cases h
theorem pureCells_kept {q : Nat} : ∀ {l : List SV} {os os1 : List SO} {ys : List SV}, pureCells l os = some (ys, os1) → KeptB q os os1
  | [], _, _, _, h => by simp [pureCells] at h; rw [h.2]; exact KeptB.refl _ _
  | x :: xs, os, os1, ys, h => by
    simp only [pureCells] at h
    split at h
    · rename_i y os2 hy
      split at h
      · rename_i ys' os3 hys
        cases h
        exact (pureCell_kept hy).trans (pureCells_kept hys)
      · cases h
    · cases h
theorem pureS_kept {q : Nat} {os os1 : List SO} {x y : SV} (h : pureS os x = some (y, os1)) : KeptB q os os1 := by
  unfold pureS at h
  split at h
  · split at h
    · rename_i hys; cases h; exact pureCells_kept hys
    · cases h
  · exact pureCell_kept h
theorem pureL_kept {q : Nat} : ∀ {l : List SV} {os os1 : List SO} {ys : List SV}, pureL l os = some (ys, os1) → KeptB q os os1
  | [], _, _, _, h => by simp [pureL] at h; rw [h.2]; exact KeptB.refl _ _
  | x :: xs, os, os1, ys, h => by
    simp only [pureL] at h
    split at h
    · rename_i y os2 hy
      split at h
      · rename_i ys' os3 hys
        cases h
        exact (pureS_kept hy).trans (pureL_kept hys)
      · cases h
    · cases h
theorem partsN_kept {q : Nat} {fs : List (Nat × Nat)} : ∀ {ps : List (Nat × Option SV)} {os os1 : List SO} {r : List (Nat × SV)}, partsN T fs ps os = some (r, os1) → KeptB q os os1
  | [], _, _, _, h => by simp [partsN] at h; rw [h.2]; exact KeptB.refl _ _
  | (f, x) :: ps, os, os1, r, h => by
    simp only [partsN] at h
    split at h
    · split at h
      · rename_i hy
        split at h
        · split at h
          · rename_i hps
            cases h
            exact (evN_kept hy).trans (partsN_kept hps)
          · cases h
        · cases h
      · cases h
    · cases h
theorem freeze_kept {q : Nat} : ∀ (js : List Nat) {os os1 : List SO}, freeze js os = some os1 → KeptB q os os1 := by
  intro js
  induction js with
  | nil => intro os os1 h; simp only [freeze, Option.some.injEq] at h; subst h; exact KeptB.refl _ _
  | cons j js ih =>
    intro os os1 h
    simp only [freeze] at h
    split at h
    · rename_i hj; exact (frz_kept hj).trans (ih h)
    · exact ih h
    · cases h
def lendsOf (c : Cx) (os : List SO) (f : SV) (args : List SV) : List Nat :=
  match f with
  | .fn g caps => reach os 100 (lendAll c.own g (args ++ caps)) []
  | _ => []
theorem okKeep_eq {nl : Nat} {l keep : List Nat} (h : okKeep nl l = some keep) : keep = l := by
  unfold okKeep at h
  split at h
  · exact (Option.some.inj h).symm
  · cases h
theorem callee_kept {c : Cx} {q : Nat} {os os1 : List SO} {f : SV} {args : List SV} {y : SV} (h : calleeS c os f args = some (y, os1)) (hq : q ∉ lendsOf c os f args) : KeptB q os os1 := by
  unfold calleeS at h
  split at h
  rotate_left
  · cases h
  unfold lendsOf at hq
  unfold callS at h
  split at h
  · simp at h
  rename_i keep hkeep
  obtain ⟨hn, -, -⟩ := okKeep_of hkeep
  simp only at hq
  have hk := okKeep_eq hkeep
  rw [← hk] at hq
  split at h
  · simp at h
  split at h
  rotate_left
  · simp at h
  split at h
  · simp at h
  rename_i r los hcall
  split at h
  · simp at h
  rename_i os0 hfrz
  split at h
  · simp at h
  rename_i os1' hgb
  split at h
  rotate_left
  · simp at h
  cases h
  have h0 : KeptB q os os0 := by
    split at hfrz
    · exact freeze_kept _ hfrz
    · cases hfrz; exact KeptB.refl _ _
  obtain ⟨b1, b2, -⟩ := giveBack_of _ keep los os0 os1' hn hgb
  have h1 : KeptB q os0 os1' := ⟨by rw [b1]; exact Nat.le_refl _, fun _ l => by
    rw [b2 q fun i hi => hq (List.mem_of_getElem? hi)]⟩
  exact (h0.trans h1).trans (KeptB.app _ _ _)
theorem ext_kept {c : Cx} {q : Nat} {env : Env} {os os1 : List SO} {o : Oper} {x : SV} (hc : cls c.T o.op = .ext) (h : opS c env os o = some (x, os1)) : KeptB q os os1 := by
  obtain ⟨dst, op, type, pos, after, guard⟩ := o
  cases op <;> simp only [opS] at h
  case move y => exact evN_kept h
  case assign y => exact evN_kept h
  case alloc t =>
    unfold allocS at h
    split at h
    · cases h; exact (zeroS_kept _ _).trans (KeptB.app _ _ _)
    · cases h
  case box t y =>
    unfold boxS at h
    split at h
    · rename_i hy
      split at h
      · cases h; exact (evN_kept hy).trans (KeptB.app _ _ _)
      · cases h
    · cases h
  case build t ps =>
    unfold buildS at h
    split at h
    · split at h
      · split at h
        · rename_i hp
          simp only at h
          split at h
          · cases h; exact (partsN_kept hp).trans (zeroS_kept _ _)
          · cases h
        · cases h
      · cases h
    · cases h
  case buildSlice t n ps =>
    unfold buildSliceS at h
    split at h
    · split at h
      · split at h
        · split at h
          · rename_i hp
            split at h
            · cases h; exact (pureL_kept hp).trans (KeptB.app _ _ _)
            · cases h
          · cases h
        · cases h
      · cases h
    · cases h
  case convert s d y => simp only [cls] at hc; split at hc <;> cases hc
  case call cl =>
    obtain ⟨callee, args, ats⟩ := cl
    cases callee with
    | builtin b => cases b <;> simp [cls] at hc
    | value f => simp [cls] at hc
    | invoke r m => simp [cls] at hc
  all_goals first | (simp [cls] at hc; done) | (cases h; done)
theorem rd_same {c : Cx} {env : Env} {os os1 : List SO} {o : Oper} {x : SV} (hc : cls c.T o.op = .rd ∨ cls c.T o.op = .ld) (h : opS c env os o = some (x, os1)) : os1 = os := by
  obtain ⟨dst, op, type, pos, after, guard⟩ := o
  cases op <;> simp only [opS] at h
  case move y => unfold cls at hc; rcases hc with hc | hc <;> (split at hc <;> first | (cases hc; done) | (rename_i e; cases e; done))
  case assign y => unfold cls at hc; rcases hc with hc | hc <;> (split at hc <;> first | (cases hc; done) | (rename_i e; cases e; done))
  case load t y => exact (ret1_eq h).2
  case indexAddr t y z => exact (ret1_eq h).2
  case slice t y lo hi mx =>
    cases mx with
    | none => exact (ret1_eq h).2
    | some m =>
      cases lo with
      | some l => cases h
      | none =>
        cases hi with
        | none => cases h
        | some z => exact (ret1_eq h).2
  case convert s d y => simp only [cls] at hc; split at hc <;> simp at hc
  case call cl =>
    obtain ⟨callee, args, ats⟩ := cl
    cases callee with
    | builtin b =>
      cases b <;> simp [cls] at hc
      simp only at h
      split at h
      · unfold builtinS at h
        split at h
        · unfold lenO at h
          split at h
          · cases h; rfl
          · cases h
        all_goals first | (rename_i e1 _; cases e1; done) | (cases h; done)
      · cases h
    | value f => simp [cls] at hc
    | invoke r m => simp [cls] at hc
  all_goals first | (simp [cls] at hc; done) | (cases h; done)
theorem allI_spec {f : Nat → Oper → Bool} : ∀ {l : List Oper} {k : Nat}, allI f k l = true → ∀ i o, l[i]? = some o → f (k + i) o = true
  | [], _, _, i, o, h => by simp at h
  | x :: xs, k, h, i, o, hi => by
    simp only [allI, Bool.and_eq_true] at h
    cases i with
    | zero => simp at hi; subst hi; exact h.1
    | succ i =>
      have := allI_spec h.2 i o (by simpa using hi)
      rw [show k + (i + 1) = k + 1 + i by omega]; exact this
theorem fold_bit {acc : List Nat} {e : Nat} : ∀ (l : List Nat) (m : Nat), (l.foldl (fun m e => m ||| (1 <<< e ||| acc.getD e 0)) m).testBit e = true →
    m.testBit e = true ∨ ∃ e1, e1 ∈ l ∧ (e1 = e ∨ (acc.getD e1 0).testBit e = true) := by
  intro l
  induction l with
  | nil => intro m h; exact .inl h
  | cons x xs ih =>
    intro m h
    simp only [List.foldl_cons] at h
    rcases ih _ h with h | ⟨e1, h1, h2⟩
    · rw [Nat.testBit_or, Nat.testBit_or] at h
      simp only [Bool.or_eq_true] at h
      rcases h with h | h | h
      · exact .inl h
      · refine .inr ⟨x, by simp, .inl ?_⟩
        rw [Nat.testBit_shiftLeft] at h
        simp at h
        obtain ⟨h1, h2⟩ := h
        have : e - x = 0 := by
          by_cases h0 : e - x = 0
          · exact h0
          · have := Nat.testBit_one_eq_true_iff_self_eq_zero.1 h2
            omega
        omega
      · exact .inr ⟨x, by simp, .inr h⟩
    · exact .inr ⟨e1, by simp [h1], h2⟩
theorem masks_ok {D : Nat → Prop} {ops : List Oper} (hD : ∀ j o, ops[j]? = some o → D j → ∀ e, e ∈ bindOn o → D e) : ∀ (os : List Oper) (acc : List Nat), ops.drop acc.length = os →
    (∀ j, D j → ∀ e, (acc.getD j 0).testBit e = true → D e) → ∀ j, D j → ∀ e, ((masks acc os).getD j 0).testBit e = true → D e := by
  intro os
  induction os with
  | nil => intro acc _ h; exact h
  | cons o os ih =>
    intro acc hd h
    simp only [masks]
    refine ih _ ?_ ?_
    · rw [List.length_append, List.length_singleton, ← List.drop_drop, hd]; rfl
    · intro j hj e he
      rcases Nat.lt_or_ge j acc.length with hlt | hge
      · refine h j hj e ?_
        rw [List.getD_eq_getElem?_getD, List.getElem?_append_left hlt] at he
        rw [List.getD_eq_getElem?_getD]; exact he
      · rw [List.getD_eq_getElem?_getD, List.getElem?_append_right hge] at he
        cases hk : j - acc.length with
        | succ k => rw [hk] at he; simp at he
        | zero =>
          rw [hk] at he
          simp only [List.getElem?_cons_zero, Option.getD_some] at he
          have hjl : j = acc.length := by omega
          subst hjl
          have ho : ops[acc.length]? = some o := by
            have := congrArg List.head? hd
            simpa [List.head?_drop] using this
          rcases fold_bit _ _ he with h0 | ⟨e1, h1, h2⟩
          · simp at h0
          · have hde := hD _ o ho hj e1 h1
            rcases h2 with rfl | h2
            · exact hde
            · exact h e1 hde e h2
structure Drawn (T : Tab) (ops : List Oper) (ms : List Nat) : Prop where
  low : ∀ (j : Nat) (o : Oper), ops[j]? = some o → ∀ e, e ∈ bindOn o → e < j
  one : ∀ (i j : Nat) (q o : Oper) (s : Nat), ops[i]? = some q → ops[j]? = some o → q.dst = some s → o.dst = some s → i = j
  data : ∀ (i j : Nat) (q o : Oper) (s : Nat), ops[i]? = some q → ops[j]? = some o → q.dst = some s → s ∈ tmpsOf ops o → (i < j ∧ ordB ms i j = true) ∨ (j < i ∧ ordB ms j i = true ∧ (cls T o.op).notLd = true)
  pair : ∀ (i j : Nat) (q o : Oper), ops[i]? = some q → ops[j]? = some o → unord ms i j = true → okPair (cls T q.op) (cls T o.op) = true
theorem drawn_of {ops : List Oper} {ms : List Nat} (h : drawOk T ops ms = true) : Drawn T ops ms := by
  unfold drawOk at h
  have H : ∀ j o, ops[j]? = some o → (bindOn o).all (fun e => Nat.blt e j) = true ∧ allI (okDraw1 T ops ms j o) 0 ops = true := fun j o ho => by
    have := allI_spec h j o ho
    simp only [Nat.zero_add, Bool.and_eq_true] at this
    exact this
  have H2 : ∀ i j q o, ops[i]? = some q → ops[j]? = some o → okDraw1 T ops ms j o i q = true := fun i j q o hi hj => by
    have := allI_spec (H j o hj).2 i q hi
    simpa using this
  refine ⟨fun j o ho e he => ?_, fun i j q o s hi hj hs ht => ?_, fun i j q o s hi hj hs ht => ?_, fun i j q o hi hj hu => ?_⟩
  · have := List.all_eq_true.1 (H j o ho).1 e he
    simpa using this
  · have := H2 i j q o hi hj
    unfold okDraw1 at this
    simp only [Bool.and_eq_true] at this
    have h1 := this.1.1
    simp only [hs, ht] at h1
    simpa using h1
  · have := H2 i j q o hi hj
    unfold okDraw1 at this
    simp only [Bool.and_eq_true] at this
    have h1 := this.1.2
    simp only [hs] at h1
    have hc : (tmpsOf ops o).contains s = true := by simpa using ht
    simp only [hc, Bool.not_true, Bool.false_or, Bool.or_eq_true, Bool.and_eq_true, Nat.blt_eq] at h1
    exact h1.imp id fun h => ⟨h.1.1, h.1.2, h.2⟩
  · have := H2 i j q o hi hj
    unfold okDraw1 at this
    simp only [Bool.and_eq_true, hu] at this
    simpa using this.2
theorem unord_lt {ms : List Nat} {i j : Nat} (h : i < j) (hu : unord ms i j = false) : ordB ms i j = true := by
  unfold unord at hu
  simp only [Bool.or_eq_false_iff] at hu
  have := hu.1
  have hb : Nat.blt i j = true := by simpa using h
  rw [hb] at this
  simpa using this
theorem unord_comm {ms : List Nat} {i j : Nat} : unord ms i j = unord ms j i := by
  unfold unord; rw [Bool.or_comm]
end Go.Proofs.Ytlnenahbffkbiaa

/- The evaluator S: regions whose order is drawn are sound. -/
namespace Go.Proofs.Ytlnenahbffkbiaa
open Go
set_option linter.unusedVariables false
set_option linter.unusedSimpArgs false
variable {P : Program} {T : Tab}
def ChkOK (c : Cx) (ops : List Oper) (ms : List Nat) (j : Nat) (env : Env) (os : List SO) (o : Oper) : Prop :=
  (∀ t p, o.op = .load t p → anyU c.T ms j 0 ops = true → isBox (ev env p) = true) ∧
  (∀ f args ts, o.op = .call { callee := .value f, args := args, argTypes := ts } → loadsU c.T ms j 0 ops ≠ [] →
    keepOk c os (ev env f) ((args.toList.zip ts.toList).map (argO c.T env)) (((loadsU c.T ms j 0 ops).filter fun p => Nat.blt p.1 j).map fun p => ev env p.2) ((loadsU c.T ms j 0 ops).any fun p => Nat.blt j p.1) = true)
theorem dchk_some {b : Bool} {x : Out} {y : SV × List SO} (h : dchk b x = some y) : b = true ∧ x = some y := by
  cases b
  · cases h
  · exact ⟨rfl, h⟩
theorem chkD_some {c : Cx} {ops : List Oper} {ms : List Nat} {j : Nat} {env : Env} {os : List SO} {o : Oper} {x : Out} {y : SV × List SO} (h : chkD c ops ms j env os o x = some y) :
    x = some y ∧ ChkOK c ops ms j env os o := by
  unfold chkD at h
  split at h
  · rename_i t p ho
    split at h
    · rename_i hu
      obtain ⟨h1, h2⟩ := dchk_some h
      exact ⟨h2, And.intro (fun t' p' e _ => by rw [ho] at e; cases e; exact h1) (fun f args ts e => by rw [ho] at e; cases e)⟩
    · rename_i hu
      exact ⟨h, And.intro (fun t' p' e hu' => by rw [hu] at hu'; cases hu') (fun f args ts e => by rw [ho] at e; cases e)⟩
  · rename_i f args ts ho
    split at h
    · rename_i hl
      exact ⟨h, And.intro (fun t p e => by rw [ho] at e; cases e) (fun f args ts e hne => absurd hl hne)⟩
    · rename_i l hl
      obtain ⟨h1, h2⟩ := dchk_some h
      exact ⟨h2, And.intro (fun t p e => by rw [ho] at e; cases e) (fun f args ts e _ => by rw [ho] at e; cases e; exact h1)⟩
  · rename_i h1 h2
    exact ⟨h, And.intro (fun t p e => absurd e (h1 t p)) (fun f args ts e => absurd e (h2 f args ts))⟩
structure Tr (c : Cx) (nt : Nat) (ops : List Oper) (ms : List Nat) (lo : Nat) (E : Nat → Env) (O : Nat → List SO) (X : Nat → SV) : Prop where
  step : ∀ (j : Nat) (o : Oper), lo ≤ j → ops[j]? = some o → op1 c ops (E j) (O j) o = some (X j, O (j + 1)) ∧ E (j + 1) = put (E j) o.dst (X j) ∧ okDst nt o.dst = true ∧ ChkOK c ops ms j (E j) (O j) o
theorem silent_chk {c : Cx} {ops : List Oper} {ms : List Nat} {j : Nat} {env : Env} {os : List SO} {o : Oper} {x : SV} (h : silent env o = some x) : ChkOK c ops ms j env os o := by
  unfold silent at h
  split at h
  · cases h
  · split at h
    · rename_i ho; exact And.intro (fun t p e => by rw [ho] at e; cases e) (fun f args ts e => by rw [ho] at e; cases e)
    · rename_i ho; exact And.intro (fun t p e => by rw [ho] at e; cases e) (fun f args ts e => by rw [ho] at e; cases e)
    · rename_i ho; exact And.intro (fun t p e => by rw [ho] at e; cases e) (fun f args ts e => by rw [ho] at e; cases e)
    · cases h
theorem tr_of {c : Cx} {nt : Nat} {ops : List Oper} {ms : List Nat} {k : Env → List SO → Out} {out : SV × List SO} : ∀ (rest : List Oper) (j : Nat) (env : Env) (os : List SO), ops.drop j = rest →
    runD c nt ops ms j rest env os k = some out → ∃ E O X, E j = env ∧ O j = os ∧ Tr c nt ops ms j E O X ∧ k (E (j + rest.length)) (O (j + rest.length)) = some out := by
  intro rest
  induction rest with
  | nil =>
    intro j env os hd h
    refine ⟨fun _ => env, fun _ => os, fun _ => .dead, rfl, rfl, ⟨fun i o hi ho => ?_⟩, h⟩
    have hlen : ops.length ≤ j := by
      have := congrArg List.length hd
      simp at this; omega
    have := lt_of_getElem? ho
    omega
  | cons o rest ih =>
    intro j env os hd h
    have hoi : ops[j]? = some o := by
      have := congrArg List.head? hd
      simpa [List.head?_drop] using this
    have hd' : ops.drop (j + 1) = rest := by rw [← List.drop_drop, hd]; rfl
    have main : ∀ (x : SV) (os1 : List SO), okDst nt o.dst = true → op1 c ops env os o = some (x, os1) → ChkOK c ops ms j env os o → runD c nt ops ms (j + 1) rest (put env o.dst x) os1 k = some out →
        ∃ E O X, E j = env ∧ O j = os ∧ Tr c nt ops ms j E O X ∧ k (E (j + (o :: rest).length)) (O (j + (o :: rest).length)) = some out := by
      intro x os1 hdst hop hchk hk
      obtain ⟨E, O, X, e1, e2, ⟨tr⟩, hf⟩ := ih (j + 1) _ _ hd' hk
      refine ⟨fun i => if i = j then env else E i, fun i => if i = j then os else O i, fun i => if i = j then x else X i, by simp, by simp, ⟨fun i p hi hp => ?_⟩, ?_⟩
      · by_cases e : i = j
        · subst e
          rw [hoi] at hp; obtain rfl := Option.some.inj hp
          simp only [if_true, if_neg (show ¬ i + 1 = i by omega), e1, e2]
          exact ⟨hop, trivial, hdst, hchk⟩
        · simp only [if_neg e, if_neg (show ¬ i + 1 = j by omega)]
          exact tr i p (by omega) hp
      · have e3 : j + (o :: rest).length = j + 1 + rest.length := by simp; omega
        rw [e3]
        simp only [if_neg (show ¬ j + 1 + rest.length = j by omega)]
        exact hf
    simp only [runD] at h
    split at h
    · cases h
    · rename_i hdst
      split at h
      · rename_i x hx
        obtain ⟨hg, hop⟩ := silent_op (c := c) (os := os) hx
        exact main x os hdst (by unfold op1; rw [hg]; exact hop) (silent_chk hx) h
      · obtain ⟨h1, hchk⟩ := chkD_some h
        obtain ⟨r, hr, hk⟩ := Option.bind_eq_some_iff.1 h1
        obtain ⟨x, os1⟩ := r
        exact main x os1 hdst hr hchk hk
theorem op1_ok {c : Cx} (hO : OpsOK P c) {ops : Array Oper} {fr : Fr} {os os1 : List SO} {g : Nat → Gh} {w : World} {env : Env} {a : Act} {o : Oper} {x : SV} {j : Nat} {K : Act → World → Prop} {Q : Exit → Act → World → Prop}
    (m : Mem fr os g w) (hs : Slots w (Bk fr os g w) g env a.tmps) (hj : ops[j]? = some o) (h : op1 c ops.toList env os o = some (x, os1))
    (hK : ∀ v w', Res fr os g w os1 x v w' → K (a.put o.dst v) w') : os.length ≤ os1.length ∧ wpOp P ops Q j K a w := by
  unfold wpOp
  simp only [hj]
  unfold op1 at h
  split at h
  · rename_i hg
    have hw : Region.wanted o (yielded ops a.tmps) = true := by simp [Region.wanted, hg]
    rw [if_pos hw]
    obtain ⟨hok, hle⟩ := hO fr os os1 g w env a o x m hs h
    exact ⟨hle, .inl (hok _ _ hK)⟩
  · rename_i j' want hg
    unfold gd at h
    split at h
    · rename_i b hb
      have hy := (yielded_of (ops := ops) hs j' (by rw [hb]; simp)).1 b hb
      split at h
      · rename_i e
        have hw : Region.wanted o (yielded ops a.tmps) = true := by simp [Region.wanted, hg, hy, e]
        rw [if_pos hw]
        obtain ⟨hok, hle⟩ := hO fr os os1 g w env a o x m hs h
        exact ⟨hle, .inl (hok _ _ hK)⟩
      · rename_i e
        obtain ⟨rfl, rfl⟩ := Prod.mk.inj (Option.some.inj h)
        have hw : ¬ Region.wanted o (yielded ops a.tmps) = true := by simp [Region.wanted, hg, hy, e]
        rw [if_neg hw]
        exact ⟨Nat.le_refl _, hK _ _ (Res.same m .undef)⟩
    · simp at h
    · rename_i hnb hnd
      obtain ⟨rfl, rfl⟩ := Prod.mk.inj (Option.some.inj h)
      have hy := (yielded_of (ops := ops) hs j' (fun e => hnd e)).2 (fun b e => hnb b e)
      have hw : ¬ Region.wanted o (yielded ops a.tmps) = true := by simp [Region.wanted, hg, hy]
      rw [if_neg hw]
      exact ⟨Nat.le_refl _, hK _ _ (Res.same m .undef)⟩
theorem op1_elim {c : Cx} {ops : List Oper} {env : Env} {os os1 : List SO} {o : Oper} {x : SV} {M : Prop} (h : op1 c ops env os o = some (x, os1)) (hA : opS c env os o = some (x, os1) → M) (hB : os1 = os → M) : M := by
  unfold op1 at h
  split at h
  · exact hA h
  · unfold gd at h
    split at h
    · split at h
      · exact hA h
      · cases h; exact hB rfl
    · cases h
    · cases h; exact hB rfl
theorem op1_same {c : Cx} {ops : List Oper} {env : Env} {os os1 os2 : List SO} {o : Oper} {x : SV} (h : op1 c ops env os o = some (x, os1)) (hA : opS c env os o = some (x, os1) → os1 = os ∧ opS c env os2 o = some (x, os2)) :
    os1 = os ∧ op1 c ops env os2 o = some (x, os2) := by
  unfold op1 at h ⊢
  split at h
  · rename_i hg; exact hA h
  · rename_i j want hg
    unfold gd at h ⊢
    split at h
    · split at h
      · rename_i e; obtain ⟨h1, h2⟩ := hA h; exact ⟨h1, by rw [if_pos e]; exact h2⟩
      · rename_i e; cases h; exact ⟨rfl, by rw [if_neg e]⟩
    · cases h
    · cases h; exact ⟨rfl, rfl⟩
theorem loadsU_mem {ms : List Nat} {j : Nat} : ∀ {l : List Oper} {k : Nat} {i : Nat} {o : Oper} {t : Nat} {p : Operand}, l[i]? = some o → o.op = .load t p → unord ms (k + i) j = true → (k + i, p) ∈ loadsU T ms j k l
  | [], _, i, _, _, _, h, _, _ => by simp at h
  | x :: xs, k, i, o, t, p, h, ho, hu => by
    cases i with
    | zero =>
      simp at h; subst h
      simp only [loadsU, ho]
      rw [show k + 0 = k from rfl] at hu ⊢
      rw [if_pos hu]; simp
    | succ i =>
      have := loadsU_mem (l := xs) (k := k + 1) (i := i) (by simpa using h) ho (by rw [show k + 1 + i = k + (i + 1) by omega]; exact hu)
      rw [show k + 1 + i = k + (i + 1) by omega] at this
      simp only [loadsU]
      split
      · split
        · simp [this]
        · exact this
      · exact this
theorem anyU_false {ms : List Nat} {j : Nat} : ∀ {l : List Oper} {k : Nat}, anyU T ms j k l = false → ∀ {i : Nat} {o : Oper}, l[i]? = some o → (cls T o.op).isE = true → unord ms (k + i) j = false
  | [], _, _, i, _, h, _ => by simp at h
  | x :: xs, k, h, i, o, hi, hE => by
    simp only [anyU, Bool.or_eq_false_iff] at h
    cases i with
    | zero =>
      simp at hi; subst hi
      have := h.1
      rw [hE] at this; simpa using this
    | succ i =>
      have := anyU_false h.2 (i := i) (by simpa using hi) hE
      rw [show k + (i + 1) = k + 1 + i by omega]; exact this
end Go.Proofs.Ytlnenahbffkbiaa

/- The evaluator S: regions whose order is drawn are sound, whatever is drawn. -/
namespace Go.Proofs.Ytlnenahbffkbiaa
open Go
set_option linter.unusedVariables false
set_option linter.unusedSimpArgs false
variable {P : Program} {T : Tab}
theorem look_put (env : Env) (d : Option Nat) (x : SV) (t : Nat) : look t (put env d x) = if d = some t then x else look t env := by
  cases d with
  | none => simp [put]
  | some s =>
    simp only [put, look]
    split
    · rename_i h; rw [Nat.eq_of_beq_eq_true h]; simp
    · rename_i h
      have : ¬ (some s = some t) := fun e => by cases e; rw [Nat.beq_refl] at h; cases h
      rw [if_neg this]
theorem getD_put (a : Act) (d : Option Nat) (v : Value) (t : Nat) (hd : okDst a.tmps.size d = true) : (a.put d v).tmps.getD t undef = if d = some t then v else a.tmps.getD t undef := by
  cases d with
  | none => simp [Act.put]
  | some s =>
    have hlt : s < a.tmps.size := by
      unfold okDst at hd
      simpa using hd
    by_cases e : s = t
    · subst e
      simp [Act.put, Array.getD, hlt]
    · have : ¬ (some s = some t) := fun e' => e (by cases e'; rfl)
      rw [if_neg this]
      simp [Act.put, Array.getElem?_setIfInBounds_ne e]
section
variable {c : Cx} {nt nl : Nat} {ol : List Oper} {ms : List Nat} {E : Nat → Env} {O : Nat → List SO} {X : Nat → SV} {fr : Fr} {g0 : Nat → Gh}
theorem E_old (tr : Tr c nt ol ms 0 E O X) {t : Nat} (ht : ∀ (i : Nat) (o : Oper), ol[i]? = some o → o.dst ≠ some t) : ∀ j, j ≤ ol.length → look t (E j) = look t (E 0) := by
  intro j
  induction j with
  | zero => intro _; rfl
  | succ j ih =>
    intro hj
    have ho : ol[j]? = some ol[j] := List.getElem?_eq_getElem hj
    rw [(tr.step j _ (Nat.zero_le _) ho).2.1, look_put, if_neg (ht j _ ho)]
    exact ih (by omega)
theorem E_new (tr : Tr c nt ol ms 0 E O X) (dr : Drawn T ol ms) {i : Nat} {o : Oper} {t : Nat} (ho : ol[i]? = some o) (hd : o.dst = some t) : ∀ j, i < j → j ≤ ol.length → look t (E j) = X i := by
  intro j
  induction j with
  | zero => intro h; omega
  | succ j ih =>
    intro h1 h2
    have hp : ol[j]? = some ol[j] := List.getElem?_eq_getElem h2
    rw [(tr.step j _ (Nat.zero_le _) hp).2.1, look_put]
    by_cases e : i = j
    · subst e
      rw [ho] at hp; obtain h3 := Option.some.inj hp
      rw [← h3, if_pos hd]
    · rw [if_neg fun e' => e (dr.one i j o _ t ho hp hd e')]
      exact ih (by omega) (by omega)
theorem E_old' (tr : Tr c nt ol ms 0 E O X) {t : Nat} : ∀ j, j ≤ ol.length → (∀ (i : Nat) (o : Oper), i < j → ol[i]? = some o → o.dst ≠ some t) → look t (E j) = look t (E 0) := by
  intro j
  induction j with
  | zero => intro _ _; rfl
  | succ j ih =>
    intro hj ht
    have ho : ol[j]? = some ol[j] := List.getElem?_eq_getElem hj
    rw [(tr.step j _ (Nat.zero_le _) ho).2.1, look_put, if_neg (ht j _ (by omega) ho)]
    exact ih (by omega) fun i o hi => ht i o (by omega)
structure DS (c : Cx) (nt nl : Nat) (ol : List Oper) (E : Nat → Env) (O : Nat → List SO) (X : Nat → SV) (fr : Fr) (g0 : Nat → Gh) (D : Nat → Prop) (m : Nat) (g : Nat → Gh) (a : Act) (w : World) : Prop where
  mem : Mem fr (O m) g w
  old : ∀ t, (∀ (i : Nat) (o : Oper), ol[i]? = some o → o.dst = some t → ¬ D i) → RepV w (Bk fr (O m) g w) g (look t (E 0)) (a.tmps.getD t undef)
  new : ∀ (i : Nat) (o : Oper) (t : Nat), ol[i]? = some o → o.dst = some t → D i → RepV w (Bk fr (O m) g w) g (X i) (a.tmps.getD t undef)
  sz : nt ≤ a.tmps.size
  df : a.defers = []
  h0 : ∀ j, j < nl → g0 j ≠ .no → g j = g0 j
  mn : m ≤ ol.length
  nlo : nl ≤ (O m).length
  below : ∀ (i : Nat) (o : Oper), ol[i]? = some o → i < m → (cls c.T o.op).isE = true → D i
  above : ∀ (i : Nat) (o : Oper), ol[i]? = some o → m ≤ i → (cls c.T o.op).isE = true → ¬ D i
theorem exists_not (l : List Nat) : ∃ q, q ∉ l := by
  have : ∃ b, ∀ x ∈ l, x < b := by
    induction l with
    | nil => exact ⟨0, fun x h => by cases h⟩
    | cons y ys ih =>
      obtain ⟨b, hb⟩ := ih
      refine ⟨b + y + 1, fun x h => ?_⟩
      rcases List.mem_cons.1 h with rfl | h
      · omega
      · have := hb x h; omega
  obtain ⟨b, hb⟩ := this
  exact ⟨b, fun h => by have := hb b h; omega⟩
theorem notE_same {o : Oper} {env : Env} {os os1 : List SO} {x : SV} (hE : (cls c.T o.op).isE = false) (h : op1 c ol env os o = some (x, os1)) : os1 = os := by
  refine op1_elim h (fun h => ?_) id
  cases hc : cls c.T o.op with
  | p => exact (p_any hc h).1
  | rd => exact rd_same (.inl hc) h
  | ld => exact rd_same (.inr hc) h
  | ext => rw [hc] at hE; cases hE
  | eff => rw [hc] at hE; cases hE
  | call => rw [hc] at hE; cases hE
theorem O_same (tr : Tr c nt ol ms 0 E O X) {i : Nat} (hi : i < ol.length) (hE : ∀ o, ol[i]? = some o → (cls c.T o.op).isE = false) : O (i + 1) = O i := by
  have ho : ol[i]? = some ol[i] := List.getElem?_eq_getElem hi
  exact notE_same (hE _ ho) (tr.step i _ (Nat.zero_le _) ho).1
theorem O_const (tr : Tr c nt ol ms 0 E O X) {m : Nat} : ∀ j, m ≤ j → j ≤ ol.length → (∀ (i : Nat) (o : Oper), m ≤ i → i < j → ol[i]? = some o → (cls c.T o.op).isE = false) → O j = O m := by
  intro j
  induction j with
  | zero => intro h _ _; have : m = 0 := by omega
            rw [this]
  | succ j ih =>
    intro h1 h2 h3
    by_cases e : m = j + 1
    · rw [e]
    · rw [O_same tr (by omega) (fun o ho => h3 j o (by omega) (by omega) ho)]
      exact ih (by omega) (by omega) (fun i o a b => h3 i o a (by omega))
theorem O_kept (tr : Tr c nt ol ms 0 E O X) {q m : Nat} : ∀ j, m ≤ j → (∀ i, m ≤ i → i < j → KeptB q (O i) (O (i + 1))) → KeptB q (O m) (O j) := by
  intro j
  induction j with
  | zero => intro h _; have : m = 0 := by omega
            rw [this]; exact KeptB.refl _ _
  | succ j ih =>
    intro h1 h2
    by_cases e : m = j + 1
    · rw [e]; exact KeptB.refl _ _
    · exact (ih (by omega) (fun i a b => h2 i a (by omega))).trans (h2 j (by omega) (by omega))
theorem call_form {o : Op} (h : cls T o = .call) : ∃ f args ts, o = .call { callee := .value f, args := args, argTypes := ts } := by
  unfold cls at h
  split at h <;> first | exact ⟨_, _, _, rfl⟩ | (split at h <;> cases h) | cases h
theorem ld_form {o : Op} (h : cls T o = .ld) : ∃ t p, o = .load t p := by
  unfold cls at h
  split at h <;> first | exact ⟨_, _, rfl⟩ | (split at h <;> cases h) | cases h
theorem E_kept (tr : Tr c nt ol ms 0 E O X) (dr : Drawn c.T ol ms) {i j : Nat} {o p : Oper} (hi : ol[i]? = some p) (hj : ol[j]? = some o) (hE : (cls c.T p.op).isE = true) {t : Nat} {y : Operand} (ho : o.op = .load t y)
    (hu : unord ms i j = true) {q off : Nat} (hy : ev (E j) y = .ptr q off) (hyi : j < i → ev (E i) y = .ptr q off) : KeptB q (O i) (O (i + 1)) := by
  obtain ⟨hop, -, -, -, hck⟩ := tr.step i p (Nat.zero_le _) hi
  have hpair := dr.pair i j p o hi hj hu
  have hld : cls c.T o.op = .ld := by rw [ho]; rfl
  rw [hld] at hpair
  refine op1_elim hop (fun h => ?_) (fun e => by rw [e]; exact KeptB.refl _ _)
  cases hc : cls c.T p.op with
  | p => rw [hc] at hE; cases hE
  | rd => rw [hc] at hE; cases hE
  | ld => rw [hc] at hE; cases hE
  | eff => rw [hc] at hpair; cases hpair
  | ext => exact ext_kept hc h
  | call =>
    obtain ⟨f, args, ts, hp⟩ := call_form hc
    have hmem : (j, y) ∈ loadsU c.T ms i 0 ol := by
      have := loadsU_mem (T := c.T) (ms := ms) (j := i) (k := 0) hj ho (by rw [Nat.zero_add, unord_comm]; exact hu)
      simpa using this
    have hk := hck f args ts hp (fun e => by rw [e] at hmem; cases hmem)
    unfold opS at h
    simp only [hp] at h
    split at h
    rotate_left
    · cases h
    refine callee_kept h ?_
    unfold keepOk at hk
    split at hk
    rotate_left
    · cases hk
    rename_i g caps hf
    simp only [Bool.and_eq_true] at hk
    obtain ⟨hk1, hk2⟩ := hk
    rw [hf]
    unfold lendsOf
    simp only
    intro hin
    have hne : i ≠ j := fun e => by
      subst e
      rw [hi] at hj; obtain rfl := Option.some.inj hj
      rw [hc] at hld; cases hld
    rcases Nat.lt_or_ge i j with hlt | hge
    · have hany : ((loadsU c.T ms i 0 ol).any fun p => Nat.blt i p.1) = true := List.any_eq_true.2 ⟨(j, y), hmem, by simpa using hlt⟩
      rw [hany] at hk1
      simp only [Bool.not_true, Bool.false_or, List.isEmpty_iff] at hk1
      rw [hk1] at hin; cases hin
    · have hlt : j < i := by omega
      have := List.all_eq_true.1 hk2 (ev (E i) y) (List.mem_map.2 ⟨(j, y), List.mem_filter.2 ⟨hmem, by simpa using hlt⟩, rfl⟩)
      rw [hyi hlt] at this
      simp only [boxIn, Bool.not_eq_true'] at this
      have h2 : (reach (O i) 100 (lendAll c.own g (List.map (argO c.T (E i)) (args.toList.zip ts.toList) ++ caps)) []).contains q = true := by simpa using hin
      rw [this] at h2; cases h2
end
end Go.Proofs.Ytlnenahbffkbiaa

/- The evaluator S: regions whose order is drawn: the step, and all steps. -/
namespace Go.Proofs.Ytlnenahbffkbiaa
open Go
set_option linter.unusedVariables false
set_option linter.unusedSimpArgs false
variable {P : Program} {T : Tab}
section
variable {c : Cx} {nt nl : Nat} {ol : List Oper} {ms : List Nat} {E : Nat → Env} {O : Nat → List SO} {X : Nat → SV} {fr : Fr} {g0 : Nat → Gh}
theorem load_same {os os2 : List SO} {t : Nat} {p x : SV} (hb : isBox p = true) (h : loadS T os t p = some x) (hk : ∀ q off, p = .ptr q off → ∀ l, os[q]? = some (.box l) → os2[q]? = some (.box l)) : loadS T os2 t p = some x := by
  have : placeCells os p = none ∨ placeCells os2 p = placeCells os p := by
    cases p with
    | ptr q off =>
      simp only [placeCells]
      cases hq : os[q]? with
      | none => exact .inl rfl
      | some o =>
        cases o with
        | box l => exact .inr (by rw [hk q off rfl l hq])
        | _ => exact .inl rfl
    | el y off => exact .inr rfl
    | undef => exact .inl rfl
    | _ => cases hb
  unfold loadS at h ⊢
  rcases this with e | e
  · rw [e] at h
    split at h <;> cases h
  · rw [e]; exact h
theorem cst_ne (v : Value) (q off : Nat) : cst v ≠ .ptr q off := by
  intro h
  unfold cst at h
  split at h
  · cases h
  · split at h <;> cases h
theorem okPair_EE {a b : Cls} (ha : a.isE = true) (hb : b.isE = true) : okPair a b = false := by
  cases a <;> cases b <;> first | rfl | (cases ha; done) | (cases hb; done)
theorem okPair_Er {a : Cls} (ha : a.isE = true) : okPair a .rd = false := by
  cases a <;> first | rfl | (cases ha; done)
theorem ds_step (hO : OpsOK P c) (tr : Tr c nt ol ms 0 E O X) (dr : Drawn c.T ol ms) (hms : ms = masks [] ol) {ops : Array Oper} (hops : ops.toList = ol) {D : Nat → Prop} {m : Nat} {g : Nat → Gh} {a : Act} {w : World}
    (hcl : ∀ j o, ol[j]? = some o → D j → ∀ e, e ∈ bindOn o → D e) (ds : DS c nt nl ol E O X fr g0 D m g a w) {j : Nat} {o : Oper} (hj : ol[j]? = some o) (hDj : ¬ D j) (hr : ∀ e, e ∈ bindOn o → D e)
    {K : Act → World → Prop} {Q : Exit → Act → World → Prop} (hK : ∀ a' w' m' g', DS c nt nl ol E O X fr g0 (fun i => D i ∨ i = j) m' g' a' w' → K a' w') : wpOp P ops Q j K a w := by
  have hjl : j < ol.length := lt_of_getElem? hj
  obtain ⟨hop, hE1, hdst, hck⟩ := tr.step j o (Nat.zero_le _) hj
  have hcl' : ∀ j' o', ol[j']? = some o' → (D j' ∨ j' = j) → ∀ e, e ∈ bindOn o' → (D e ∨ e = j) := by
    intro j' o' ho' hD' e he
    rcases hD' with hD' | rfl
    · exact .inl (hcl j' o' ho' hD' e he)
    · rw [hj] at ho'; obtain rfl := Option.some.inj ho'
      exact .inl (hr e he)
  have hbef' : ∀ i k, (D k ∨ k = j) → ordB ms i k = true → (D i ∨ i = j) := by
    intro i k hk hb
    unfold ordB at hb
    rw [hms] at hb
    exact masks_ok (D := fun i => D i ∨ i = j) hcl' ol [] rfl (fun j' _ e he => by simp at he) k hk i hb
  have hbefD : ∀ i k, D k → ordB ms i k = true → D i := by
    intro i k hk hb
    unfold ordB at hb
    rw [hms] at hb
    exact masks_ok (D := D) hcl ol [] rfl (fun j' _ e he => by simp at he) k hk i hb
  have hbef : ∀ i, i ≠ j → ordB ms i j = true → D i := fun i hi hb => (hbef' i j (.inr rfl) hb).resolve_right hi
  have hval : ∀ t, t ∈ tmpsOf ol o → RepV w (Bk fr (O m) g w) g (look t (E j)) (a.tmps.getD t undef) := by
    intro t ht
    by_cases hex : ∃ (i : Nat) (q : Oper), ol[i]? = some q ∧ q.dst = some t
    · obtain ⟨i, q, hi, hq⟩ := hex
      rcases dr.data i j q o t hi hj hq ht with ⟨hlt, hb⟩ | ⟨hlt, hb, -⟩
      · rw [E_new tr dr hi hq j hlt (by omega)]
        exact ds.new i q t hi hq (hbef i (by omega) hb)
      · rw [E_old' tr j (by omega) fun k p hk hp e => by
          have := dr.one k i p q t hp hi e hq
          omega]
        refine ds.old t fun k p hp e hD => ?_
        obtain rfl := dr.one k i p q t hp hi e hq
        exact hDj (hbefD j k hD hb)
    · have hno : ∀ (i : Nat) (q : Oper), ol[i]? = some q → q.dst ≠ some t := fun i q hi hq => hex ⟨i, q, hi, hq⟩
      rw [E_old tr hno j (by omega)]
      exact ds.old t fun i q hi hq => absurd hq (hno i q hi)
  let env' := killS (tmpsOf ol o) (E j)
  have hs : Slots w (Bk fr (O m) g w) g env' a.tmps := by
    intro t
    rcases look_kill_or (E j) t (tmpsOf ol o) with ⟨h1, h2⟩ | h2
    · show RepV _ _ _ (look t (killS (tmpsOf ol o) (E j))) _
      rw [h2]; exact hval t h1
    · show RepV _ _ _ (look t (killS (tmpsOf ol o) (E j))) _
      rw [h2]; exact .dead
  have hjo : ops[j]? = some o := by rw [← Array.getElem?_toList, hops]; exact hj
  have fin : ∀ (m' : Nat) (os1 : List SO), os1 = O m' → m' ≤ ol.length → op1 c ol (E j) (O m) o = some (X j, os1) →
      (∀ (i : Nat) (p : Oper), ol[i]? = some p → i < m' → (cls c.T p.op).isE = true → (D i ∨ i = j)) → (∀ (i : Nat) (p : Oper), ol[i]? = some p → m' ≤ i → (cls c.T p.op).isE = true → ¬ (D i ∨ i = j)) → wpOp P ops Q j K a w := by
    intro m' os1 hos hm' hop' hbl hab
    subst hos
    have h1 : op1 c ops.toList env' (O m) o = some (X j, O m') := by rw [hops]; show op1 c ol (killS (tmpsOf ol o) (E j)) (O m) o = _; rw [op1_kill]; exact hop'
    have hlen : (O m).length ≤ (O m').length := (op1_ok (P := P) hO (K := fun _ _ => True) (Q := Q) (j := j) ds.mem hs hjo h1 (fun _ _ _ => trivial)).1
    refine (op1_ok hO ds.mem hs hjo h1 ?_).2
    rintro v w' ⟨g', m1, gr, rp⟩
    have hd' : okDst a.tmps.size o.dst = true := okDst_le hdst ds.sz
    refine hK _ _ m' g' { mem := m1, old := fun t ht => ?_, new := fun i p t hi hp hD => ?_, sz := by rw [put_size]; exact ds.sz, df := by rw [put_defers]; exact ds.df, h0 := fun k hk hn => ?_, mn := hm', nlo := Nat.le_trans ds.nlo hlen, below := hbl, above := hab }
    · rw [getD_put _ _ _ _ hd', if_neg fun e => ht j o hj e (.inr rfl)]
      exact (ds.old t fun i p hi hp hD => ht i p hi hp (.inl hD)).grow gr
    · rw [getD_put _ _ _ _ hd']
      by_cases e : i = j
      · subst e
        rw [hj] at hi; obtain rfl := Option.some.inj hi
        rw [if_pos hp]; exact rp
      · rw [if_neg fun e' => e (dr.one i j p o t hi hj hp e')]
        exact (ds.new i p t hi hp (hD.resolve_right e)).grow gr
    · rw [gr.ext k (by rw [ds.h0 k hk hn]; exact hn), ds.h0 k hk hn]
  by_cases hE : (cls c.T o.op).isE = true
  · -- one that does something: it is its turn
    have hmj : m ≤ j := by
      rcases Nat.lt_or_ge j m with h | h
      · exact absurd (ds.below j o hj h hE) hDj
      · exact h
    have hno : ∀ (i : Nat) (p : Oper), m ≤ i → i < j → ol[i]? = some p → (cls c.T p.op).isE = false := by
      intro i p h1 h2 hi
      cases hp : (cls c.T p.op).isE with
      | false => rfl
      | true =>
        have hu : unord ms i j = false := by
          cases hu : unord ms i j with
          | false => rfl
          | true =>
            have := dr.pair i j p o hi hj hu
            rw [okPair_EE hp hE] at this; cases this
        exact absurd (hbef i (by omega) (unord_lt h2 hu)) (ds.above i p hi h1 hp)
    have hOj : O j = O m := O_const tr j hmj (by omega) hno
    refine fin (j + 1) _ rfl (by omega) (by rw [← hOj]; exact hop) ?_ ?_
    · intro i p hi hlt hp
      by_cases e : i = j
      · exact .inr e
      · rcases Nat.lt_or_ge i m with h | h
        · exact .inl (ds.below i p hi h hp)
        · have := hno i p h (by omega) hi
          rw [this] at hp; cases hp
    · intro i p hi hge hp hD
      rcases hD with hD | hD
      · exact ds.above i p hi (by omega) hp hD
      · omega
  · -- one that reads, or only reckons
    have hE : (cls c.T o.op).isE = false := by simpa using hE
    have keep : op1 c ol (E j) (O m) o = some (X j, O m) → wpOp P ops Q j K a w := fun h => by
      refine fin m _ rfl ds.mn h (fun i p hi hlt hp => .inl (ds.below i p hi hlt hp)) (fun i p hi hge hp hD => ?_)
      rcases hD with hD | rfl
      · exact ds.above i p hi hge hp hD
      · rw [hj] at hi; obtain rfl := Option.some.inj hi
        rw [hE] at hp; cases hp
    have hun1 : ∀ (i : Nat) (p : Oper), ol[i]? = some p → (cls c.T p.op).isE = true → m ≤ i → i < j → unord ms i j = true := by
      intro i p hi hp h1 h2
      cases hu : unord ms i j with
      | true => rfl
      | false => exact absurd (hbef i (by omega) (unord_lt h2 hu)) (ds.above i p hi h1 hp)
    have hun2 : ∀ (i : Nat) (p : Oper), ol[i]? = some p → (cls c.T p.op).isE = true → j < i → i < m → unord ms i j = true := by
      intro i p hi hp h1 h2
      cases hu : unord ms i j with
      | true => rfl
      | false =>
        rw [unord_comm] at hu
        exact absurd (hbefD j i (ds.below i p hi h2 hp) (unord_lt h1 hu)) hDj
    have hsame : (∀ (i : Nat) (p : Oper), ol[i]? = some p → (cls c.T p.op).isE = true → unord ms i j = false) → O m = O j := by
      intro hn
      rcases Nat.le_total m j with h | h
      · refine (O_const tr j h (by omega) fun i p h1 h2 hi => ?_).symm
        cases hp : (cls c.T p.op).isE with
        | false => rfl
        | true => have := hun1 i p hi hp h1 h2; rw [hn i p hi hp] at this; cases this
      · refine O_const tr m h ds.mn fun i p h1 h2 hi => ?_
        cases hp : (cls c.T p.op).isE with
        | false => rfl
        | true =>
          have hne : i ≠ j := fun e => by
            subst e
            rw [hj] at hi; obtain rfl := Option.some.inj hi
            rw [hE] at hp; cases hp
          have := hun2 i p hi hp (by omega) h2
          rw [hn i p hi hp] at this; cases this
    have hself : O (j + 1) = O j := notE_same hE hop
    cases hc : cls c.T o.op with
    | p => exact keep (op1_same hop fun h => ⟨hself, (p_any hc h).2 _⟩).2
    | rd =>
      refine keep ?_
      rw [hsame fun i p hi hp => ?_, ← hself]
      · rw [hself]; rw [hself] at hop; exact hop
      · cases hu : unord ms i j with
        | false => rfl
        | true =>
          have := dr.pair i j p o hi hj hu
          rw [hc] at this
          rw [okPair_Er hp] at this; cases this
    | ld =>
      obtain ⟨t, y, ho⟩ := ld_form hc
      cases hau : anyU c.T ms j 0 ol with
      | false =>
        refine keep ?_
        rw [hsame fun i p hi hp => by simpa using anyU_false hau hi hp]
        rw [hself] at hop; exact hop
      | true =>
        have hbx := hck.1 t y ho hau
        refine keep (op1_same hop fun h => ⟨hself, ?_⟩).2
        unfold opS at h ⊢
        simp only [ho] at h ⊢
        obtain ⟨h1, -⟩ := ret1_eq h
        rw [load_same (os2 := O m) hbx h1 ?_]
        · rfl
        · intro q off hy l hl
          have hyt : ∀ i, j < i → i ≤ ol.length → ev (E i) y = ev (E j) y := by
            intro i hji hil
            cases y with
            | tmp t' =>
              have ht' : t' ∈ tmpsOf ol o := by
                unfold tmpsOf
                refine List.mem_append.2 (.inl (List.mem_filterMap.2 ⟨.tmp t', ?_, rfl⟩))
                rw [ho]; simp [Op.operands]
              simp only [ev]
              by_cases hex : ∃ (i' : Nat) (q' : Oper), ol[i']? = some q' ∧ q'.dst = some t'
              · obtain ⟨i', q', hi', hq'⟩ := hex
                obtain ⟨hlt, -⟩ := (dr.data i' j q' o t' hi' hj hq' ht').resolve_right fun h => by rw [hc] at h; cases h.2.2
                rw [E_new tr dr hi' hq' i (by omega) hil, E_new tr dr hi' hq' j hlt (by omega)]
              · have hno : ∀ (i : Nat) (q : Oper), ol[i]? = some q → q.dst ≠ some t' := fun i q hi hq => hex ⟨i, q, hi, hq⟩
                rw [E_old tr hno i hil, E_old tr hno j (by omega)]
            | const v => rfl
            | func f => rfl
            | global g => rfl
          have hkp : ∀ i, i < ol.length → ((m ≤ i ∧ i < j) ∨ (j ≤ i ∧ i < m)) → KeptB q (O i) (O (i + 1)) := by
            intro i hil hcase
            have hi : ol[i]? = some ol[i] := List.getElem?_eq_getElem hil
            cases hp : (cls c.T ol[i].op).isE with
            | false => rw [O_same tr hil fun o' ho' => by rw [hi] at ho'; obtain rfl := Option.some.inj ho'; exact hp]; exact KeptB.refl _ _
            | true =>
              have hne : i ≠ j := fun e => by
                subst e
                rw [hj] at hi; have h5 := Option.some.inj hi
                rw [← h5, hE] at hp; cases hp
              have hu : unord ms i j = true := by
                rcases hcase with ⟨a1, a2⟩ | ⟨a1, a2⟩
                · exact hun1 i _ hi hp a1 a2
                · exact hun2 i _ hi hp (by omega) a2
              exact E_kept tr dr hi hj hp ho hu hy (fun hji => by rw [hyt i hji (by omega)]; exact hy)
          rcases Nat.le_total m j with h | h
          · have hk := O_kept tr j h (q := q) fun i a1 a2 => hkp i (by omega) (.inl ⟨a1, a2⟩)
            have hq : q < (O m).length := by
              rcases Nat.lt_or_ge q (O m).length with h | h
              · exact h
              · have hg := ds.mem.fresh q h
                have ht : ∃ t', y = .tmp t' := by
                  cases y with
                  | tmp t' => exact ⟨t', rfl⟩
                  | const v => exact absurd hy (cst_ne v q off)
                  | func f => cases hy
                  | global g => cases hy
                obtain ⟨t', rfl⟩ := ht
                have := hval t' (by
                  unfold tmpsOf
                  refine List.mem_append.2 (.inl (List.mem_filterMap.2 ⟨.tmp t', ?_, rfl⟩))
                  rw [ho]; simp [Op.operands])
                simp only [ev] at hy
                rw [hy] at this
                generalize a.tmps.getD t' undef = vv at this
                cases this with
                | ptr hp => rw [hg] at hp; cases hp
            exact (hk.2 hq l).2 hl
          · have hk := O_kept tr m h (q := q) fun i a1 a2 => hkp i (by have := ds.mn; omega) (.inr ⟨a1, a2⟩)
            exact (hk.2 (lt_of_getElem? hl) l).1 hl
    | ext => rw [hc] at hE; cases hE
    | eff => rw [hc] at hE; cases hE
    | call => rw [hc] at hE; cases hE
end
theorem mem_bindOn {o : Oper} {e : Nat} : e ∈ bindOn o ↔ ∃ d, d ∈ o.after ∧ Region.binds .any d = true ∧ d.on = e := by
  unfold bindOn
  simp [List.mem_map, List.mem_filter, and_assoc]
def VC (C : List (Nat × Nat)) (ops : Array Oper) : (Nat → Prop) → List Nat → Prop
  | D, [] => ∀ i, i < ops.size → D i
  | D, i :: rest => ¬ D i ∧ (∃ o, ops[i]? = some o ∧ ∀ e, e ∈ bindOn o → D e) ∧ (∀ p, p ∈ C → p.2 = i → D p.1) ∧ VC C ops (fun k => D k ∨ k = i) rest
theorem vc_add {C : List (Nat × Nat)} {ops : Array Oper} {i j : Nat} : ∀ (ord : List Nat) (D : Nat → Prop), D i → VC C ops D ord → VC (C ++ [(i, j)]) ops D ord
  | [], D, _, h => h
  | x :: rest, D, hi, ⟨h1, h2, h3, h4⟩ => ⟨h1, h2, fun p hp e => by
      rcases List.mem_append.1 hp with hp | hp
      · exact h3 p hp e
      · obtain rfl := List.mem_singleton.1 hp; exact hi, vc_add rest _ (.inl hi) h4⟩
theorem vc_split {C : List (Nat × Nat)} {ops : Array Oper} {i j : Nat} (hij : i ≠ j) : ∀ (ord : List Nat) (D : Nat → Prop), VC C ops D ord → VC (C ++ [(i, j)]) ops D ord ∨ VC (C ++ [(j, i)]) ops D ord
  | [], D, h => .inl h
  | x :: rest, D, ⟨h1, h2, h3, h4⟩ => by
    by_cases ei : x = i
    · subst ei
      refine .inl ⟨h1, h2, fun p hp e => ?_, vc_add rest _ (.inr rfl) h4⟩
      rcases List.mem_append.1 hp with hp | hp
      · exact h3 p hp e
      · obtain rfl := List.mem_singleton.1 hp; exact absurd e.symm hij
    · by_cases ej : x = j
      · subst ej
        refine .inr ⟨h1, h2, fun p hp e => ?_, vc_add rest _ (.inr rfl) h4⟩
        rcases List.mem_append.1 hp with hp | hp
        · exact h3 p hp e
        · obtain rfl := List.mem_singleton.1 hp; exact absurd e hij
      · rcases vc_split hij rest _ h4 with h | h
        · refine .inl ⟨h1, h2, fun p hp e => ?_, h⟩
          rcases List.mem_append.1 hp with hp | hp
          · exact h3 p hp e
          · obtain rfl := List.mem_singleton.1 hp; exact absurd e.symm ej
        · refine .inr ⟨h1, h2, fun p hp e => ?_, h⟩
          rcases List.mem_append.1 hp with hp | hp
          · exact h3 p hp e
          · obtain rfl := List.mem_singleton.1 hp; exact absurd e.symm ei
theorem vc_congr {C : List (Nat × Nat)} {ops : Array Oper} {D D' : Nat → Prop} {ord : List Nat} (h : ∀ i, D i ↔ D' i) (hv : VC C ops D ord) : VC C ops D' ord := by
  obtain rfl : D = D' := funext fun i => propext (h i)
  exact hv
theorem vc_lin {ops : Array Oper} (low : ∀ j o, ops[j]? = some o → ∀ e, e ∈ bindOn o → e < j) : ∀ (fuel t : Nat) (listed : Array Bool) (L : List Nat), listed.size = ops.size → (∀ i, i < ops.size → listed.getD i false = false → i ∈ L) →
    L.length ≤ fuel → VC [] ops (fun i => listed.getD i false = true) (Region.linearise.go .any ops fuel t listed []) := by
  have hgd : ∀ (listed : Array Bool), listed.size = ops.size → ∀ i, i < ops.size → listed.getD i true = listed.getD i false := by
    intro listed hsz i hi
    simp [Array.getD, show i < listed.size by omega]
  intro fuel
  induction fuel with
  | zero =>
    intro t listed L hsz hL hlen
    simp only [Region.linearise.go, List.reverse_nil]
    intro i hi
    cases hb : listed.getD i false with
    | true => rfl
    | false =>
      have := hL i hi hb
      have h0 : L = [] := List.length_eq_zero_iff.1 (by omega)
      rw [h0] at this; cases this
  | succ fuel ih =>
    intro t listed L hsz hL hlen
    simp only [Region.linearise.go]
    change VC [] ops _ (match (Region.ready .any ops listed)[t % (Region.ready .any ops listed).length]? with
      | some i => Region.linearise.go .any ops fuel (t / (Region.ready .any ops listed).length) (listed.setIfInBounds i true) [i]
      | none => [].reverse)
    cases hi : (Region.ready .any ops listed)[t % (Region.ready .any ops listed).length]? with
    | none =>
      have hnil : Region.ready .any ops listed = [] := by
        cases hr : Region.ready .any ops listed with
        | nil => rfl
        | cons x xs =>
          rw [hr] at hi
          rw [List.getElem?_eq_none_iff] at hi
          have := Nat.mod_lt t (y := (x :: xs).length) (by simp)
          omega
      intro i
      induction i using Nat.strongRecOn with
      | _ i ihi =>
        intro hi
        cases hb : listed.getD i false with
        | true => rfl
        | false =>
          have ho : ops[i]? = some ops[i] := Array.getElem?_eq_getElem hi
          have : i ∈ Region.ready .any ops listed := mem_ready.2 ⟨by rw [hgd listed hsz i hi]; exact hb, ops[i], ho, fun e he hbd => by
            have hlow := low i _ ho e.on (mem_bindOn.2 ⟨e, he, hbd, rfl⟩)
            exact ihi e.on hlow (by omega)⟩
          rw [hnil] at this; cases this
    | some i =>
      have him : i ∈ Region.ready .any ops listed := List.mem_of_getElem? hi
      obtain ⟨h1, o, ho, hall⟩ := mem_ready.1 him
      have hlt : i < ops.size := (Array.getElem?_eq_some_iff.1 ho).1
      have hDi : listed.getD i false = false := by rw [← hgd listed hsz i hlt]; exact h1
      have hset : ∀ k, (listed.setIfInBounds i true).getD k false = true ↔ (listed.getD k false = true ∨ k = i) := by
        intro k
        by_cases e : k = i
        · subst e
          simp [Array.getD, show k < listed.size by omega]
        · rw [getD_set_ne false (fun e' => e e'.symm)]; simp [e]
      show VC [] ops _ (Region.linearise.go .any ops fuel (t / (Region.ready .any ops listed).length) (listed.setIfInBounds i true) [i])
      rw [linearise_go_acc]
      refine ⟨by show ¬ (listed.getD i false = true); rw [hDi]; simp, ⟨o, ho, fun e he => ?_⟩, fun p hp => by simp at hp, ?_⟩
      · obtain ⟨d, hd1, hd2, rfl⟩ := mem_bindOn.1 he
        exact hall d hd1 hd2
      · refine vc_congr hset (ih _ (listed.setIfInBounds i true) (L.erase i) (by simpa using hsz) ?_ ?_)
        · intro k hk hb
          have hne : k ≠ i := fun e => by
            have := (hset k).2 (.inr e)
            rw [hb] at this; cases this
          rw [getD_set_ne false (fun e' => hne e'.symm)] at hb
          exact (List.mem_erase_of_ne hne).2 (hL k hk hb)
        · have := List.length_erase_of_mem (hL i hlt hDi)
          omega
theorem core_ok {c : Cx} (hO : OpsOK P c) {fr : Fr} {g0 : Nat → Gh} {nl nt : Nat} {k : Kt} {out : SV × List SO} {ops : Array Oper} {env : Env} {os : List SO} {a : Act} {w : World} (hi : Inv fr g0 nl nt env os a w)
    (h : runL c nt ops.toList env os k.n = some out) {ord : List Nat} (hv : VC [] ops (fun _ => False) ord) : wpOps P ops (PostK fr g0 nl nt k out) ord a w := by
  unfold runL at h
  split at h
  rotate_left
  · cases h
  rename_i hd
  have dr := drawn_of hd
  obtain ⟨E, O, X, e1, e2, tr, hf⟩ := tr_of ops.toList 0 env os rfl h
  have key : ∀ (ord : List Nat) (D : Nat → Prop) (a : Act) (w : World) (m : Nat) (g : Nat → Gh), (∀ j o, ops.toList[j]? = some o → D j → ∀ e, e ∈ bindOn o → D e) →
      DS c nt nl ops.toList E O X fr g0 D m g a w → VC [] ops D ord → wpOps P ops (PostK fr g0 nl nt k out) ord a w := by
    intro ord
    induction ord with
    | nil =>
      intro D a w m g hcl ds hall
      simp only [VC] at hall
      show PostK fr g0 nl nt k out .normal a w
      have hOn : O ops.toList.length = O m := O_const tr _ ds.mn (Nat.le_refl _) fun i p h1 h2 hi => by
        cases hp : (cls c.T p.op).isE with
        | false => rfl
        | true => exact absurd (hall i (by simpa using h2)) (ds.above i p hi h1 hp)
      have hf' : k.n (E ops.toList.length) (O ops.toList.length) = some out := by simpa using hf
      refine ⟨E ops.toList.length, O ops.toList.length, ⟨g, by rw [hOn]; exact ds.mem, fun t => ?_, ds.sz, ds.df, by rw [hOn]; exact ds.nlo, ds.h0⟩, hf'⟩
      rw [hOn]
      by_cases hex : ∃ (i : Nat) (q : Oper), ops.toList[i]? = some q ∧ q.dst = some t
      · obtain ⟨i, q, hi, hq⟩ := hex
        have hlt := lt_of_getElem? hi
        rw [E_new tr dr hi hq _ hlt (Nat.le_refl _)]
        exact ds.new i q t hi hq (hall i (by simpa using hlt))
      · have hno : ∀ (i : Nat) (q : Oper), ops.toList[i]? = some q → q.dst ≠ some t := fun i q hi hq => hex ⟨i, q, hi, hq⟩
        rw [E_old tr hno _ (Nat.le_refl _)]
        exact ds.old t fun i q hi hq => absurd hq (hno i q hi)
    | cons j rest ih =>
      intro D a w m g hcl ds hv
      obtain ⟨hDj, ⟨o, ho, hall⟩, -, hv'⟩ := hv
      have hol : ops.toList[j]? = some o := by rw [Array.getElem?_toList]; exact ho
      rw [wpOps_cons]
      refine ds_step hO tr dr rfl rfl hcl ds hol hDj hall fun a' w' m' g' ds' => ?_
      refine ih _ a' w' m' g' ?_ ds' hv'
      intro j' o' ho' hb e he
      rcases hb with hb | rfl
      · exact .inl (hcl j' o' ho' hb e he)
      · rw [hol] at ho'; obtain rfl := Option.some.inj ho'
        exact .inl (hall e he)
  obtain ⟨g, m, hs, ht, hdf, hl, h0⟩ := hi
  exact key ord (fun _ => False) a w 0 g (fun j o _ hD => hD.elim)
    { mem := by rw [e2]; exact m, old := fun t _ => by rw [e1, e2]; exact hs t, new := (fun i o t _ _ hD => hD.elim), sz := ht, df := hdf, h0 := h0, mn := Nat.zero_le _, nlo := by rw [e2]; exact hl,
      below := (fun i o _ h => by omega), above := fun i o _ _ _ hD => hD } hv
theorem posOf_get : ∀ (σ : List Nat) (i : Nat), i ∈ σ → σ[posOf i σ]? = some i
  | [], i, h => by cases h
  | x :: xs, i, h => by
    unfold posOf
    split
    · rename_i hb; rw [Nat.eq_of_beq_eq_true hb]; rfl
    · rename_i hb
      rcases List.mem_cons.1 h with rfl | h
      · simp at hb
      · rw [List.getElem?_cons_succ]; exact posOf_get xs i h
theorem nodupB_spec : ∀ (l : List Nat), nodupB l = true → l.Nodup
  | [], _ => List.nodup_nil
  | x :: xs, h => by
    simp only [nodupB, Bool.and_eq_true, Bool.not_eq_true', List.contains_eq_mem] at h
    exact List.nodup_cons.2 ⟨by simpa using h.1, nodupB_spec xs h.2⟩
structure PermOK (σ : List Nat) (ops : Array Oper) : Prop where
  len : σ.length = ops.size
  nd : σ.Nodup
  lt : ∀ i, i ∈ σ → i < ops.size
  all : ∀ i, i < ops.size → i ∈ σ
  gd : ∀ (i : Nat) (o : Oper) (g : Nat × Bool), ops[i]? = some o → o.guard = some g → g.1 < ops.size
theorem perm_of {σ : List Nat} {ops : Array Oper} (h : permOk σ ops.toList = true) : PermOK σ ops := by
  unfold permOk at h
  simp only [Bool.and_eq_true, List.all_eq_true] at h
  obtain ⟨⟨⟨⟨h1, h2⟩, h3⟩, h5⟩, h4⟩ := h
  have hl : σ.length = ops.size := by simpa using Nat.eq_of_beq_eq_true h1
  have hn := nodupB_spec σ h2
  have hlt : ∀ i, i ∈ σ → i < ops.size := fun i hi => by
    have := h3 i hi
    simpa [Nat.blt_eq] using this
  refine ⟨hl, hn, hlt, fun i hi => ?_, fun i o g ho hg => ?_⟩
  · have := h5 i (List.mem_range.2 (by simpa using hi))
    simpa using this
  · have hm : o ∈ ops.toList := List.mem_of_getElem? (by rw [Array.getElem?_toList]; exact ho)
    have := h4 o hm
    rw [hg] at this
    simpa [Nat.blt_eq] using this
theorem filterMap_get {α β : Type} (f : α → Option β) (g : α → β) : ∀ (l : List α), (∀ x, x ∈ l → f x = some (g x)) → l.filterMap f = l.map g
  | [], _ => rfl
  | x :: xs, h => by
    rw [List.filterMap_cons, h x (by simp), List.map_cons, filterMap_get f g xs fun y hy => h y (by simp [hy])]
theorem permOps_get {σ : List Nat} {ops : Array Oper} {C : List (Nat × Nat)} (hp : PermOK σ ops) {i : Nat} {o : Oper} (ho : ops[i]? = some o) : (permOps C σ ops.toList).toArray[posOf i σ]? = some (permOp C σ i o) := by
  have hi : i < ops.size := (Array.getElem?_eq_some_iff.1 ho).1
  have e : permOps C σ ops.toList = σ.map fun i => permOp C σ i (ops.getD i default) := by
    unfold permOps
    refine filterMap_get _ _ σ fun x hx => ?_
    have hx' := hp.lt x hx
    have : ops.toList[x]? = some ops[x] := by rw [Array.getElem?_toList]; exact Array.getElem?_eq_getElem hx'
    simp [this, Array.getD, hx']
  rw [e]
  have := posOf_get σ i (hp.all i hi)
  simp only [List.getElem?_toArray, List.getElem?_map, this, Option.map_some, Option.some.injEq]
  have h2 : ops.getD i default = o := by
    rw [Array.getElem?_eq_getElem hi] at ho
    simp [Array.getD, hi, Option.some.inj ho]
  rw [h2]
theorem permOps_size {σ : List Nat} {ops : Array Oper} {C : List (Nat × Nat)} (hp : PermOK σ ops) : (permOps C σ ops.toList).toArray.size = σ.length := by
  have e : permOps C σ ops.toList = σ.map fun i => permOp C σ i (ops.getD i default) := by
    unfold permOps
    refine filterMap_get _ _ σ fun x hx => ?_
    have hx' := hp.lt x hx
    have : ops.toList[x]? = some ops[x] := by rw [Array.getElem?_toList]; exact Array.getElem?_eq_getElem hx'
    simp [this, Array.getD, hx']
  rw [e]; simp
theorem bindOn_perm {C : List (Nat × Nat)} {σ : List Nat} {i : Nat} {o : Oper} {e : Nat} (h : e ∈ bindOn (permOp C σ i o)) : ∃ e0, e = posOf e0 σ ∧ (e0 ∈ bindOn o ∨ (e0, i) ∈ C) := by
  unfold bindOn permOp at h
  simp only [List.mem_map, List.mem_filter] at h
  obtain ⟨d, ⟨hd, -⟩, rfl⟩ := h
  simp only [List.mem_map, List.mem_append, List.mem_filterMap] at hd
  obtain ⟨e0, he, rfl⟩ := hd
  refine ⟨e0, rfl, ?_⟩
  rcases he with he | ⟨p, hp, hpe⟩
  · exact .inl he
  · split at hpe
    · rename_i hb
      have := Nat.eq_of_beq_eq_true hb
      cases hpe
      obtain ⟨p1, p2⟩ := p
      obtain rfl : p2 = i := this
      exact .inr hp
    · cases hpe
theorem nd_inj : ∀ {l : List Nat}, l.Nodup → ∀ {i j : Nat} {hi : i < l.length} {hj : j < l.length}, l[i] = l[j] → i = j
  | [], _, i, j, hi, hj, e => by simp at hi
  | x :: xs, hn, i, j, hi, hj, e => by
    obtain ⟨h1, h2⟩ := List.nodup_cons.1 hn
    cases i with
    | zero =>
      cases j with
      | zero => rfl
      | succ j =>
        simp only [List.getElem_cons_zero, List.getElem_cons_succ] at e
        exact absurd (e ▸ List.getElem_mem _) h1
    | succ i =>
      cases j with
      | zero =>
        simp only [List.getElem_cons_zero, List.getElem_cons_succ] at e
        exact absurd (e ▸ List.getElem_mem _) h1
      | succ j =>
        simp only [List.getElem_cons_succ] at e
        rw [nd_inj h2 e]
theorem vc_perm {σ : List Nat} {ops : Array Oper} {C : List (Nat × Nat)} (hp : PermOK σ ops) : ∀ (ord : List Nat) (D : Nat → Prop), (∀ i, D i → i < ops.size) → VC C ops D ord →
    VC [] (permOps C σ ops.toList).toArray (fun p => ∃ i, D i ∧ posOf i σ = p) (ord.map fun i => posOf i σ)
  | [], D, hD, h => by
    intro p hps
    rw [permOps_size hp] at hps
    have hm : σ[p] ∈ σ := List.getElem_mem hps
    refine ⟨σ[p], h _ (hp.lt _ hm), ?_⟩
    have h1 := posOf_get σ σ[p] hm
    have hlt := lt_of_getElem? h1
    rw [List.getElem?_eq_getElem hlt] at h1
    exact nd_inj hp.nd (Option.some.inj h1)
  | i :: rest, D, hD, ⟨h1, ⟨o, ho, hall⟩, h3, h4⟩ => by
    have hi : i < ops.size := (Array.getElem?_eq_some_iff.1 ho).1
    have inj : ∀ x y, x < ops.size → y < ops.size → posOf x σ = posOf y σ → x = y := fun x y hx hy e => by
      have a1 := posOf_get σ x (hp.all x hx)
      have a2 := posOf_get σ y (hp.all y hy)
      rw [e, a2] at a1
      exact (Option.some.inj a1).symm
    refine ⟨?_, ⟨_, permOps_get hp ho, fun e he => ?_⟩, fun p hp => by simp at hp, ?_⟩
    · rintro ⟨x, hx, e⟩
      exact h1 (inj x i (hD x hx) hi e ▸ hx)
    · obtain ⟨e0, rfl, he2⟩ := bindOn_perm he
      refine he2.elim (fun he => ⟨e0, hall e0 he, rfl⟩) (fun he => ⟨e0, h3 (e0, i) he rfl, rfl⟩)
    · refine vc_congr (fun p => ?_) (vc_perm hp rest _ (fun x hx => hx.elim (hD x) fun e => e ▸ hi) h4)
      constructor
      · rintro ⟨x, hx | rfl, e⟩
        · exact .inl ⟨x, hx, e⟩
        · exact .inr e.symm
      · rintro (⟨x, hx, e⟩ | rfl)
        · exact ⟨x, .inl hx, e⟩
        · exact ⟨i, .inr rfl, rfl⟩
theorem wanted_perm {σ : List Nat} {ops : Array Oper} {C : List (Nat × Nat)} (hp : PermOK σ ops) {i : Nat} {o : Oper} (ho : ops[i]? = some o) (tmps : Array Value) :
    Region.wanted (permOp C σ i o) (yielded (permOps C σ ops.toList).toArray tmps) = Region.wanted o (yielded ops tmps) := by
  unfold Region.wanted
  cases hg : o.guard with
  | none => simp [permOp, hg]
  | some g =>
    have hlt := hp.gd i o g ho hg
    have e : (permOp C σ i o).guard = some (posOf g.1 σ, g.2) := by simp [permOp, hg]
    have hy : yielded (permOps C σ ops.toList).toArray tmps (posOf g.1 σ) = yielded ops tmps g.1 := by
      unfold yielded
      rw [permOps_get hp (Array.getElem?_eq_getElem hlt), Array.getElem?_eq_getElem hlt]
      rfl
    rw [e]
    simp only [hy]
theorem wp_perm {σ : List Nat} {ops : Array Oper} {C : List (Nat × Nat)} (hp : PermOK σ ops) {Q : Exit → Act → World → Prop} : ∀ (ord : List Nat) (D : Nat → Prop) (a : Act) (w : World), VC C ops D ord →
    wpOps P (permOps C σ ops.toList).toArray Q (ord.map fun i => posOf i σ) a w → wpOps P ops Q ord a w
  | [], D, a, w, _, h => h
  | i :: rest, D, a, w, ⟨_, ⟨o, ho, _⟩, _, h4⟩, h => by
    rw [List.map_cons, wpOps_cons] at h
    rw [wpOps_cons]
    refine wpOp_mono (K := wpOps P (permOps C σ ops.toList).toArray Q (rest.map fun i => posOf i σ)) (fun a' w' h' => wp_perm hp rest _ a' w' h4 h') ?_
    unfold wpOp at h ⊢
    rw [permOps_get hp ho] at h
    rw [ho]
    simp only [wanted_perm hp ho] at h ⊢
    exact h
theorem both_some {x y : Out} {r : SV × List SO} (h : both x y = some r) : x = some r ∧ y = some r := by
  unfold both at h
  split at h
  · rename_i e; exact ⟨h, e ▸ h⟩
  · cases h
theorem tree_ok {c : Cx} (hO : OpsOK P c) {fr : Fr} {g0 : Nat → Gh} {nl nt : Nat} {k : Kt} {out : SV × List SO} {ops : Array Oper} {env : Env} {os : List SO} {a : Act} {w : World} (hi : Inv fr g0 nl nt env os a w) {ord : List Nat} :
    ∀ (t : DT) (C : List (Nat × Nat)), runT c nt ops.toList env os k.n t C = some out → VC C ops (fun _ => False) ord → wpOps P ops (PostK fr g0 nl nt k out) ord a w
  | .leaf σ, C, h, hv => by
    simp only [runT] at h
    split at h
    · rename_i hp
      have hp := perm_of hp
      refine wp_perm hp ord _ a w hv (core_ok hO hi h (vc_congr (fun p => ?_) (vc_perm hp ord _ (fun _ h => h.elim) hv)))
      constructor
      · rintro ⟨_, h, _⟩; exact h
      · exact False.elim
    · cases h
  | .split i j x y, C, h, hv => by
    simp only [runT] at h
    split at h
    · cases h
    · rename_i hb
      obtain ⟨h1, h2⟩ := both_some h
      rcases vc_split (i := i) (j := j) (fun e => by subst e; simp at hb) ord _ hv with hv | hv
      · exact tree_ok hO hi x _ h1 hv
      · exact tree_ok hO hi y _ h2 hv
theorem draw_ok {c : Cx} (hO : OpsOK P c) (hmix : P.follows .mixedOrders = true) : DrawOK P c := by
  intro fr g0 nl nt k out d ops env os a w t hi h
  simp only [Region.schedule, hmix, Bool.true_or, if_true]
  have hrep : ∀ i, (Array.replicate ops.size false).getD i false = false := fun i => by
    simp only [Array.getD]; split <;> simp
  have lin : (∀ j o, ops[j]? = some o → ∀ e, e ∈ bindOn o → e < j) → VC [] ops (fun _ => False) (Region.linearise.go .any ops ops.size t (Array.replicate ops.size false) []) := fun low =>
    vc_congr (fun i => by rw [hrep]; simp) (vc_lin low ops.size t (Array.replicate ops.size false) (List.range ops.size) (by simp) (fun i hi _ => List.mem_range.2 hi) (by simp))
  unfold runDraw at h
  split at h
  · refine core_ok hO hi h (lin fun j o ho e he => ?_)
    unfold runL at h
    split at h
    · rename_i hd
      exact (drawn_of hd).low j o (by rw [Array.getElem?_toList]; exact ho) e he
    · cases h
  · rename_i tr
    split at h
    · rename_i hl
      refine tree_ok hO hi tr [] h (lin fun j o ho e he => ?_)
      have := allI_spec hl j o (by rw [Array.getElem?_toList]; exact ho)
      have := List.all_eq_true.1 this e he
      simpa [Nat.blt_eq] using this
    · cases h
end Go.Proofs.Ytlnenahbffkbiaa
