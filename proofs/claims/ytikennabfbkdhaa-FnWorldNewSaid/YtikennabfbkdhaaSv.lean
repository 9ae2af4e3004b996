/- The evaluator S and what it says of functions: Ss, Su, Sv. -/
import Derived.Test.YtikennabfbkdhaaSr
/- The evaluator S: no operation takes an object away. -/
namespace Go.Proofs.Ytikennabfbkdhaa
open Go
set_option linter.unusedVariables false
set_option linter.unusedSimpArgs false
variable {P : Program} {T : Tab}
theorem zeroS_len : ∀ (z : List ZK) (os : List SO), os.length ≤ (zeroS z os).2.length
  | [], os => Nat.le_refl _
  | .sl sz :: zs, os => by
    simp only [zeroS]
    have := zeroS_len zs (os ++ [.arr false sz []])
    simp at this; omega
  | .int _ :: zs, os => zeroS_len zs os
  | .bool :: zs, os => zeroS_len zs os
  | .str :: zs, os => zeroS_len zs os
  | .fn :: zs, os => zeroS_len zs os
  | .ptr :: zs, os => zeroS_len zs os
theorem pureCell_len {os os1 : List SO} {x y : SV} (h : pureCell os x = some (y, os1)) : os.length = os1.length := by
  unfold pureCell at h
  split at h
  · cases h; rfl
  · cases h; rfl
  · split at h
    · cases h; simp
    · cases h; rfl
    · cases h
  · split at h
    · split at h
      · cases h; simp
      · cases h
    · split at h
      · cases h; rfl
      · cases h
    · cases h
  · cases h
theorem deVw_len {os os1 : List SO} {x y : SV} (h : deVw os x = some (y, os1)) : os.length = os1.length := by
  unfold deVw at h
  split at h
  · exact pureCell_len h
  · cases h; rfl
theorem pureCells_len : ∀ {l : List SV} {os os1 : List SO} {ys : List SV}, pureCells l os = some (ys, os1) → os.length = os1.length
  | [], _, _, _, h => by simp [pureCells] at h; rw [h.2]
  | x :: xs, os, os1, ys, h => by
    simp only [pureCells] at h
    split at h
    · rename_i y os2 hy
      split at h
      · rename_i ys' os3 hys
        cases h
        exact (pureCell_len hy).trans (pureCells_len hys)
      · cases h
    · cases h
theorem pureS_len {os os1 : List SO} {x y : SV} (h : pureS os x = some (y, os1)) : os.length = os1.length := by
  unfold pureS at h
  split at h
  · split at h
    · rename_i hys; cases h; exact pureCells_len hys
    · cases h
  · exact pureCell_len h
theorem pureL_len : ∀ {l : List SV} {os os1 : List SO} {ys : List SV}, pureL l os = some (ys, os1) → os.length = os1.length
  | [], _, _, _, h => by simp [pureL] at h; rw [h.2]
  | x :: xs, os, os1, ys, h => by
    simp only [pureL] at h
    split at h
    · rename_i y os2 hy
      split at h
      · rename_i ys' os3 hys
        cases h
        exact (pureS_len hy).trans (pureL_len hys)
      · cases h
    · cases h
theorem storeS_len {os os1 : List SO} {t : Nat} {p x : SV} (h : storeS T os t p x = some os1) : os.length = os1.length := by
  unfold storeS at h
  split at h
  · split at h
    · split at h
      · split at h
        · split at h
          · cases h; simp
          · cases h
        · cases h
      · split at h
        · rename_i hys
          have hl := pureCells_len hys
          split at h
          · split at h
            · split at h
              · split at h
                · cases h; simp [hl]
                · cases h
              · cases h
            · cases h
          · cases h
        · cases h
      · cases h
    · cases h
  · cases h
theorem partsN_len {fs : List (Nat × Nat)} : ∀ {ps : List (Nat × Option SV)} {os os1 : List SO} {r : List (Nat × SV)}, partsN T fs ps os = some (r, os1) → os.length ≤ os1.length
  | [], _, _, _, h => by simp [partsN] at h; rw [h.2]; exact Nat.le_refl _
  | (f, x) :: ps, os, os1, r, h => by
    simp only [partsN] at h
    split at h
    · split at h
      · rename_i hy
        split at h
        · split at h
          · rename_i hps
            cases h
            exact Nat.le_trans (evN_len hy) (partsN_len hps)
          · cases h
        · cases h
      · cases h
    · cases h
theorem op_len {c : Cx} {os os1 : List SO} {env : Env} {o : Oper} {y : SV}
    (hcall : ∀ (f : Operand) (args : Array Operand) (ts : Array TypeId), o.op = .call { callee := .value f, args := args, argTypes := ts } → ts.size = args.size → calleeS c os (ev env f) ((args.toList.zip ts.toList).map (argO c.T env)) = some (y, os1) → os.length ≤ os1.length)
    (h : opS c env os o = some (y, os1)) : os.length ≤ os1.length := by
  have R : ∀ {x : Option SV}, ret1 x os = some (y, os1) → os.length ≤ os1.length := fun h => by rw [(ret1_eq h).2]; exact Nat.le_refl _
  unfold opS at h
  split at h
  · exact evN_len h
  · exact evN_len h
  · exact R h
  · unfold allocS at h
    split at h
    · rename_i i hi
      cases h
      have := zeroS_len i.zero os
      simp; omega
    · cases h
  · unfold boxS at h
    split at h
    · rename_i hy
      split at h
      · cases h; have := evN_len hy; simp; omega
      · cases h
    · cases h
  · unfold buildS at h
    split at h
    · split at h
      · split at h
        · rename_i hp
          simp only at h
          split at h
          · cases h
            exact Nat.le_trans (partsN_len hp) (zeroS_len _ _)
          · cases h
        · cases h
      · cases h
    · cases h
  · unfold buildSliceO at h
    split at h
    · unfold nilSl at h
      split at h
      · split at h
        · cases h; exact Nat.le_refl _
        · cases h
      · cases h
    unfold buildSliceS at h
    split at h
    · split at h
      · split at h
        · split at h
          · rename_i hp
            split at h
            · cases h; have := pureL_len hp; simp; omega
            · cases h
          · cases h
        · cases h
      · cases h
    · cases h
  · exact R h
  · unfold storeO at h
    split at h
    · rename_i hz
      split at h
      · rename_i hd
        split at h
        · rename_i hs
          cases h
          have := storeS_len hs
          have := evN_len hz
          have := deVw_len hd
          omega
        · cases h
      · cases h
    · cases h
  · exact R h
  · exact R h
  · exact R h
  · unfold convS at h
    split at h
    · cases h; exact Nat.le_refl _
    · split at h
      · split at h
        · cases h; exact Nat.le_refl _
        · cases h
      · cases h
    · split at h
      · cases h; simp
      · cases h
    · cases h; exact Nat.le_refl _
    · cases h
  · unfold makeS at h
    split at h
    · split at h
      · split at h
        · split at h
          · cases h; simp
          · cases h
        · cases h
      · cases h
    · cases h
  · exact R h
  · exact R h
  · exact R h
  · exact R h
  · exact R h
  · exact R h
  · exact R h
  · split at h
    · cases h; exact Nat.le_refl _
    · cases h
  · split at h
    · unfold builtinS at h
      split at h
      · unfold lenO at h
        split at h
        · cases h; exact Nat.le_refl _
        · cases h
      · unfold appendS at h
        split at h
        · split at h
          · split at h
            · cases h; simp
            · cases h
          · cases h
        · cases h
      · unfold copyS at h
        split at h
        · split at h
          · split at h
            · cases h; simp
            · cases h
          · cases h
        · split at h
          · split at h
            · cases h; simp
            · cases h
          · cases h
        · cases h
      · exact R h
      · exact R h
      · cases h
    · cases h
  · rename_i f args ts ho
    split at h
    · rename_i hsz
      exact hcall f args ts ho hsz h
    · cases h
  · cases h
theorem ops_ok {c : Cx} (hT : TabOk P c.T) (hK : KOK P c.K) : OpsOK P c := by
  intro fr os os1 g w env a o y hm hs h
  refine ⟨op_rep hT (callOK hK) hm hs h, op_len (fun f args ts ho hsz hc => ?_) h⟩
  exact (call_ok hK hm hs ho hsz hc).2
end Go.Proofs.Ytikennabfbkdhaa

/- The evaluator S: regions whose order is drawn. First: what an operation hangs on. -/
namespace Go.Proofs.Ytikennabfbkdhaa
open Go
set_option linter.unusedVariables false
set_option linter.unusedSimpArgs false
variable {P : Program} {T : Tab}
theorem evP_congr {env env' : Env} {x : Operand} (h : ev env x = ev env' x) : evP env x = evP env' x := by
  unfold evP
  split
  · rfl
  · rw [h]
theorem argO_congr {env env' : Env} {p : Operand × Nat} (h : ev env p.1 = ev env' p.1) : argO T env p = argO T env' p := by
  unfold argO
  split
  · rfl
  · exact h
theorem map_congr' {α β : Type} {f g : α → β} : ∀ (l : List α), (∀ x, x ∈ l → f x = g x) → l.map f = l.map g := fun l h => List.map_congr_left h
theorem opS_congr {c : Cx} {env env' : Env} {os : List SO} {o : Oper} (h : ∀ x, x ∈ o.op.operands → ev env x = ev env' x) : opS c env os o = opS c env' os o := by
  obtain ⟨dst, op, type, pos, after, guard⟩ := o
  have hP : ∀ x, x ∈ op.operands → evP env x = evP env' x := fun x hx => evP_congr (h x hx)
  cases op <;> simp only [Op.operands] at h hP
  case move x => simp only [opS, hP x (by simp)]
  case assign x => simp only [opS, hP x (by simp)]
  case pick b x y => simp only [opS, h b (by simp), h x (by simp), h y (by simp)]
  case alloc t => rfl
  case box t x => simp only [opS, hP x (by simp)]
  case build t ps =>
    have : ps.toList.map (fun p => (p.1, evP env p.2)) = ps.toList.map (fun p => (p.1, evP env' p.2)) := map_congr' _ fun p hp => by
      rw [hP p.2 (by simp only [List.mem_toArray, List.mem_map]; exact ⟨p, hp, rfl⟩)]
    simp only [opS, this]
  case buildSlice t n ps =>
    have : ps.toList.map (fun p => (p.1, ev env p.2)) = ps.toList.map (fun p => (p.1, ev env' p.2)) := map_congr' _ fun p hp => by
      rw [h p.2 (by simp only [List.mem_toArray, List.mem_map]; exact ⟨p, hp, rfl⟩)]
    simp only [opS, this]
  case load t x => simp only [opS, h x (by simp)]
  case store t x y => simp only [opS, h x (by simp), hP y (by simp)]
  case nilCheck x => simp only [opS, h x (by simp)]
  case binOp b t x y z => simp only [opS, h x (by simp), h y (by simp)]
  case unOp u t x => simp only [opS, h x (by simp)]
  case convert s d x => simp only [opS, h x (by simp)]
  case makeSlice t x y => simp only [opS, h x (by simp), h y (by simp)]
  case slice t x lo hi mx =>
    cases mx with
    | some m =>
      cases lo with
      | some l => rfl
      | none =>
        cases hi with
        | none => rfl
        | some z => simp only [opS, h x (by simp), h z (by simp), h m (by simp)]
    | none =>
      have h1 : lo.map (ev env) = lo.map (ev env') := by
        cases lo with
        | none => rfl
        | some z => simp only [Option.map_some, h z (by simp)]
      have h2 : hi.map (ev env) = hi.map (ev env') := by
        cases hi with
        | none => rfl
        | some z => simp only [Option.map_some, h z (by simp)]
      simp only [opS, h x (by simp), h1, h2]
  case fieldAddr t x f => simp only [opS, h x (by simp)]
  case field t x f => simp only [opS, h x (by simp)]
  case indexAddr t x y => simp only [opS, h x (by simp), h y (by simp)]
  case index t x y => simp only [opS, h x (by simp), h y (by simp)]
  case extract x i => simp only [opS, h x (by simp)]
  case makeFunc fn first captured =>
    have : captured.toList.map (ev env) = captured.toList.map (ev env') := map_congr' _ fun p hp => h p (by simp at hp; simp [hp])
    cases fn <;> simp only [opS, this]
  case call cl =>
    obtain ⟨callee, args, ats⟩ := cl
    cases callee with
    | invoke r m => rfl
    | builtin b =>
      have : args.toList.map (ev env) = args.toList.map (ev env') := map_congr' _ fun p hp => h p (by simp at hp; simp [Call.operands, hp])
      simp only [opS, this]
    | value f =>
      have : (args.toList.zip ats.toList).map (argO c.T env) = (args.toList.zip ats.toList).map (argO c.T env') := map_congr' _ fun p hp => argO_congr (h p.1 (by
        have := (List.of_mem_zip hp).1
        simp at this; simp [Call.operands, this]))
      simp only [opS, this, h f (by simp [Call.operands])]
  all_goals rfl
theorem look_kill_in (env : Env) (t : Nat) : ∀ (al : List Nat), t ∈ al → look t (killS al env) = look t env := by
  intro al
  induction al with
  | nil => intro h; cases h
  | cons x xs ih =>
    intro h
    simp only [killS, look]
    split
    · rename_i e; rw [Nat.eq_of_beq_eq_true e]
    · rename_i e
      rcases List.mem_cons.1 h with rfl | h
      · rw [Nat.beq_refl] at e; cases e
      · exact ih h
theorem look_kill_or (env : Env) (t : Nat) : ∀ (al : List Nat), (t ∈ al ∧ look t (killS al env) = look t env) ∨ look t (killS al env) = .dead := by
  intro al
  by_cases h : t ∈ al
  · exact .inl ⟨h, look_kill_in env t al h⟩
  · refine .inr ?_
    induction al with
    | nil => rfl
    | cons x xs ih =>
      simp only [killS, look]
      split
      · rename_i e; rw [Nat.eq_of_beq_eq_true e] at h; simp at h
      · exact ih (fun hh => h (List.mem_cons_of_mem _ hh))
theorem ev_kill {env : Env} {al : List Nat} {x : Operand} (h : ∀ t, x = .tmp t → t ∈ al) : ev (killS al env) x = ev env x := by
  cases x with
  | tmp t => exact look_kill_in env t al (h t rfl)
  | const v => rfl
  | func f => rfl
  | global g => rfl
theorem op1_kill {c : Cx} {ops : List Oper} {env : Env} {os : List SO} {o : Oper} : op1 c ops (killS (tmpsOf ops o) env) os o = op1 c ops env os o := by
  have hop : opS c (killS (tmpsOf ops o) env) os o = opS c env os o := opS_congr fun x hx => ev_kill fun t e => by
    subst e
    unfold tmpsOf
    refine List.mem_append.2 (.inl (List.mem_filterMap.2 ⟨_, by simpa using hx, rfl⟩))
  unfold op1
  cases hg : o.guard with
  | none => exact hop
  | some p =>
    obtain ⟨j, want⟩ := p
    have hgv : guardV ops (killS (tmpsOf ops o) env) j = guardV ops env j := by
      unfold guardV
      cases hj : ops[j]? with
      | none => rfl
      | some q =>
        cases hd : q.dst with
        | none => simp only [hd]
        | some t =>
          simp only [hd]
          refine look_kill_in env t _ ?_
          unfold tmpsOf
          refine List.mem_append.2 (.inr ?_)
          simp [hg, hj, hd]
    simp only [hop, hgv]
theorem p_any {c : Cx} {env : Env} {os os1 : List SO} {o : Oper} {x : SV} (hc : cls c.T o.op = .p) (h : opS c env os o = some (x, os1)) :
    os1 = os ∧ ∀ os2, opS c env os2 o = some (x, os2) := by
  have R : ∀ {y : Option SV}, ret1 y os = some (x, os1) → os1 = os ∧ ∀ os2, ret1 y os2 = some (x, os2) := fun h => by
    obtain ⟨h1, h2⟩ := ret1_eq h
    exact ⟨h2, fun os2 => by rw [h1]; rfl⟩
  obtain ⟨dst, op, type, pos, after, guard⟩ := o
  have N : ∀ y : Operand, y ≠ .const (.slice none 0 0) → ∀ os, evN c.T type os (evP env y) = some (ev env y, os) := fun y hy os => by
    unfold evP
    split
    · exact absurd rfl hy
    · rfl
  cases op <;> simp only [opS] at h ⊢
  case move y =>
    have hy : y ≠ .const (.slice none 0 0) := fun e => by subst e; simp [cls] at hc
    rw [N y hy] at h; cases h
    exact ⟨rfl, fun os2 => N y hy os2⟩
  case assign y =>
    have hy : y ≠ .const (.slice none 0 0) := fun e => by subst e; simp [cls] at hc
    rw [N y hy] at h; cases h
    exact ⟨rfl, fun os2 => N y hy os2⟩
  case pick b y z => exact R h
  case nilCheck y => exact R h
  case binOp b t y z u => exact R h
  case unOp u t y => exact R h
  case fieldAddr t y f => exact R h
  case field t y f => exact R h
  case index t y z => exact R h
  case extract y i => exact R h
  case makeFunc fn first captured =>
    cases fn with
    | func f =>
      simp only at h ⊢
      split at h
      · rename_i hf; cases h; exact ⟨rfl, fun os2 => by first | rfl | simp [hf]⟩
      · cases h
    | _ => cases h
  case buildSlice t n ps =>
    simp only [cls] at hc
    split at hc
    · rename_i hp
      have hq : pzS c.T t n (ps.toList.map fun p => (p.1, ev env p.2)).length = true := by rw [List.length_map]; exact hp
      unfold buildSliceO at h ⊢
      rw [hq] at h ⊢
      dsimp only at h ⊢
      unfold nilSl at h ⊢
      split at h
      · rename_i e hu
        split at h
        · rename_i i hi
          cases h; exact ⟨rfl, fun os2 => by first | rfl | simp only [hu, hi]⟩
        · cases h
      · cases h
    · cases hc
  case convert s d y =>
    simp only [cls] at hc
    split at hc
    · rename_i k k' h1 h2
      unfold convS at h ⊢
      simp only [h1, h2] at h ⊢
      split at h
      · rename_i e1 e2 e3; cases h; cases e1; cases e2; simp [e3]
      · rename_i e1 e2; cases e1
      · rename_i e1 e2; cases e1
      · rename_i e1 e2; cases e1
      · cases h
    · cases hc
  case call cl =>
    obtain ⟨callee, args, ats⟩ := cl
    cases callee with
    | builtin b =>
      simp only at h ⊢
      split at h
      · rename_i hsz
        cases b <;> simp [cls] at hc
        all_goals
          unfold builtinS at h ⊢
          split at h <;> first | (rename_i e1 e2; cases e1; done) | (cases h; done) | skip
          rename_i e2
          refine ⟨(R h).1, fun os2 => ?_⟩
          rw [if_pos hsz]
          exact (R h).2 os2
      · cases h
    | value f => simp [cls] at hc
    | invoke r m => simp [cls] at hc; try cases h
  all_goals first | (simp [cls] at hc; done) | (cases h; done)
end Go.Proofs.Ytikennabfbkdhaa

/- The evaluator S: regions whose order is drawn. What is kept beside a read; the static check. -/
namespace Go.Proofs.Ytikennabfbkdhaa
open Go
set_option linter.unusedVariables false
set_option linter.unusedSimpArgs false
variable {P : Program} {T : Tab}
def KeptB (q : Nat) (os os1 : List SO) : Prop := os.length ≤ os1.length ∧ (q < os.length → ∀ l, os[q]? = some (.box l) ↔ os1[q]? = some (.box l))
theorem KeptB.refl (q : Nat) (os : List SO) : KeptB q os os := ⟨Nat.le_refl _, fun _ _ => Iff.rfl⟩
theorem KeptB.trans {q : Nat} {os os1 os2 : List SO} (h : KeptB q os os1) (h' : KeptB q os1 os2) : KeptB q os os2 :=
  ⟨Nat.le_trans h.1 h'.1, fun hq l => (h.2 hq l).trans (h'.2 (Nat.lt_of_lt_of_le hq h.1) l)⟩
theorem KeptB.app (q : Nat) (os r : List SO) : KeptB q os (os ++ r) :=
  ⟨by simp, fun hq l => by rw [List.getElem?_append_left hq]⟩
theorem evN_kept {q ty : Nat} {os os' : List SO} {x : Option SV} {y : SV} (h : evN T ty os x = some (y, os')) : KeptB q os os' := by
  unfold evN at h
  split at h
  · split at h
    · split at h
      · obtain ⟨_, rfl⟩ := Prod.mk.inj (Option.some.inj h); exact KeptB.app _ _ _
      · simp at h
    · simp at h
  · obtain ⟨_, rfl⟩ := Prod.mk.inj (Option.some.inj h); exact KeptB.refl _ _
theorem zeroS_kept {q : Nat} : ∀ (z : List ZK) (os : List SO), KeptB q os (zeroS z os).2
  | [], os => KeptB.refl _ _
  | .sl sz :: zs, os => by
    simp only [zeroS]
    exact (KeptB.app _ _ _).trans (zeroS_kept zs (os ++ [.arr false sz []]))
  | .int _ :: zs, os => zeroS_kept zs os
  | .bool :: zs, os => zeroS_kept zs os
  | .str :: zs, os => zeroS_kept zs os
  | .fn :: zs, os => zeroS_kept zs os
  | .ptr :: zs, os => zeroS_kept zs os
theorem frz_kept {q j sz : Nat} {os : List SO} {l : List SV} {b : Bool} (hj : os[j]? = some (.arr b sz l)) : KeptB q os (os.set j (.frz sz l)) := by
  refine ⟨by simp, fun hq l' => ?_⟩
  rw [List.getElem?_set]
  by_cases e : j = q
  · subst e
    rw [if_pos rfl, hj]
    split <;> simp
  · rw [if_neg e]
theorem pureCell_kept {q : Nat} {os os1 : List SO} {x y : SV} (h : pureCell os x = some (y, os1)) : KeptB q os os1 := by
  unfold pureCell at h
  split at h
  · cases h; exact KeptB.refl _ _
  · cases h; exact KeptB.refl _ _
  · split at h
    · rename_i hj; cases h; exact frz_kept hj
    · cases h; exact KeptB.refl _ _
    · cases h
  · split at h
    · rename_i hj
      split at h
      · cases h; exact frz_kept hj
      · cases h
    · split at h
      · cases h; exact KeptB.refl _ _
      · cases h
    · cases h
  · cases h
theorem pureCells_kept {q : Nat} : ∀ {l : List SV} {os os1 : List SO} {ys : List SV}, pureCells l os = some (ys, os1) → KeptB q os os1
  | [], _, _, _, h => by simp [pureCells] at h; rw [h.2]; exact KeptB.refl _ _
  | x :: xs, os, os1, ys, h => by
    simp only [pureCells] at h
    split at h
    · rename_i y os2 hy
      split at h
      · rename_i ys' os3 hys
        cases h
        exact (pureCell_kept hy).trans (pureCells_kept hys)
      · cases h
    · cases h
theorem pureS_kept {q : Nat} {os os1 : List SO} {x y : SV} (h : pureS os x = some (y, os1)) : KeptB q os os1 := by
  unfold pureS at h
  split at h
  · split at h
    · rename_i hys; cases h; exact pureCells_kept hys
    · cases h
  · exact pureCell_kept h
theorem pureL_kept {q : Nat} : ∀ {l : List SV} {os os1 : List SO} {ys : List SV}, pureL l os = some (ys, os1) → KeptB q os os1
  | [], _, _, _, h => by simp [pureL] at h; rw [h.2]; exact KeptB.refl _ _
  | x :: xs, os, os1, ys, h => by
    simp only [pureL] at h
    split at h
    · rename_i y os2 hy
      split at h
      · rename_i ys' os3 hys
        cases h
        exact (pureS_kept hy).trans (pureL_kept hys)
      · cases h
    · cases h
theorem partsN_kept {q : Nat} {fs : List (Nat × Nat)} : ∀ {ps : List (Nat × Option SV)} {os os1 : List SO} {r : List (Nat × SV)}, partsN T fs ps os = some (r, os1) → KeptB q os os1
  | [], _, _, _, h => by simp [partsN] at h; rw [h.2]; exact KeptB.refl _ _
  | (f, x) :: ps, os, os1, r, h => by
    simp only [partsN] at h
    split at h
    · split at h
      · rename_i hy
        split at h
        · split at h
          · rename_i hps
            cases h
            exact (evN_kept hy).trans (partsN_kept hps)
          · cases h
        · cases h
      · cases h
    · cases h
theorem freeze_kept {q : Nat} : ∀ (js : List Nat) {os os1 : List SO}, freeze js os = some os1 → KeptB q os os1 := by
  intro js
  induction js with
  | nil => intro os os1 h; simp only [freeze, Option.some.injEq] at h; subst h; exact KeptB.refl _ _
  | cons j js ih =>
    intro os os1 h
    simp only [freeze] at h
    split at h
    · rename_i hj; exact (frz_kept hj).trans (ih h)
    · exact ih h
    · cases h
def lendsOf (c : Cx) (os : List SO) (f : SV) (args : List SV) : List Nat :=
  match f with
  | .fn g caps => reach os 100 (lendAll c.own g (args ++ caps)) []
  | _ => []
theorem okKeep_eq {nl : Nat} {l keep : List Nat} (h : okKeep nl l = some keep) : keep = l := by
  unfold okKeep at h
  split at h
  · exact (Option.some.inj h).symm
  · cases h
theorem callee_kept {c : Cx} {q : Nat} {os os1 : List SO} {f : SV} {args : List SV} {y : SV} (h : calleeS c os f args = some (y, os1)) (hq : q ∉ lendsOf c os f args) : KeptB q os os1 := by
  unfold calleeS at h
  split at h
  rotate_left
  · cases h
  unfold lendsOf at hq
  unfold callS at h
  split at h
  · simp at h
  rename_i keep hkeep
  obtain ⟨hn, -, -⟩ := okKeep_of hkeep
  simp only at hq
  have hk := okKeep_eq hkeep
  rw [← hk] at hq
  split at h
  · simp at h
  split at h
  rotate_left
  · simp at h
  split at h
  · simp at h
  rename_i r los hcall
  split at h
  · simp at h
  rename_i os0 hfrz
  split at h
  · simp at h
  rename_i os1' hgb
  split at h
  rotate_left
  · simp at h
  cases h
  have h0 : KeptB q os os0 := by
    split at hfrz
    · exact freeze_kept _ hfrz
    · cases hfrz; exact KeptB.refl _ _
  obtain ⟨b1, b2, -⟩ := giveBack_of _ keep los os0 os1' hn hgb
  have h1 : KeptB q os0 os1' := ⟨by rw [b1]; exact Nat.le_refl _, fun _ l => by
    rw [b2 q fun i hi => hq (List.mem_of_getElem? hi)]⟩
  exact (h0.trans h1).trans (KeptB.app _ _ _)
theorem ext_kept {c : Cx} {q : Nat} {env : Env} {os os1 : List SO} {o : Oper} {x : SV} (hc : cls c.T o.op = .ext) (h : opS c env os o = some (x, os1)) : KeptB q os os1 := by
  obtain ⟨dst, op, type, pos, after, guard⟩ := o
  cases op <;> simp only [opS] at h
  case move y => exact evN_kept h
  case assign y => exact evN_kept h
  case alloc t =>
    unfold allocS at h
    split at h
    · cases h; exact (zeroS_kept _ _).trans (KeptB.app _ _ _)
    · cases h
  case box t y =>
    unfold boxS at h
    split at h
    · rename_i hy
      split at h
      · cases h; exact (evN_kept hy).trans (KeptB.app _ _ _)
      · cases h
    · cases h
  case build t ps =>
    unfold buildS at h
    split at h
    · split at h
      · split at h
        · rename_i hp
          simp only at h
          split at h
          · cases h; exact (partsN_kept hp).trans (zeroS_kept _ _)
          · cases h
        · cases h
      · cases h
    · cases h
  case buildSlice t n ps =>
    simp only [cls] at hc
    split at hc
    · cases hc
    rename_i hp
    unfold buildSliceO at h
    rw [show pzS c.T t n (ps.toList.map fun p => (p.1, ev env p.2)).length = false by rw [List.length_map]; exact hp] at h
    dsimp only at h
    unfold buildSliceS at h
    split at h
    · split at h
      · split at h
        · split at h
          · rename_i hp
            split at h
            · cases h; exact (pureL_kept hp).trans (KeptB.app _ _ _)
            · cases h
          · cases h
        · cases h
      · cases h
    · cases h
  case convert s d y => simp only [cls] at hc; split at hc <;> cases hc
  case call cl =>
    obtain ⟨callee, args, ats⟩ := cl
    cases callee with
    | builtin b => cases b <;> simp [cls] at hc
    | value f => simp [cls] at hc
    | invoke r m => simp [cls] at hc
  all_goals first | (simp [cls] at hc; done) | (cases h; done)
theorem rd_same {c : Cx} {env : Env} {os os1 : List SO} {o : Oper} {x : SV} (hc : cls c.T o.op = .rd ∨ cls c.T o.op = .ld) (h : opS c env os o = some (x, os1)) : os1 = os := by
  obtain ⟨dst, op, type, pos, after, guard⟩ := o
  cases op <;> simp only [opS] at h
  case move y => unfold cls at hc; rcases hc with hc | hc <;> (split at hc <;> first | (cases hc; done) | (rename_i e; cases e; done))
  case assign y => unfold cls at hc; rcases hc with hc | hc <;> (split at hc <;> first | (cases hc; done) | (rename_i e; cases e; done))
  case load t y => exact (ret1_eq h).2
  case indexAddr t y z => exact (ret1_eq h).2
  case slice t y lo hi mx =>
    cases mx with
    | none => exact (ret1_eq h).2
    | some m =>
      cases lo with
      | some l => cases h
      | none =>
        cases hi with
        | none => cases h
        | some z => exact (ret1_eq h).2
  case convert s d y => simp only [cls] at hc; split at hc <;> simp at hc
  case buildSlice t n ps => simp only [cls] at hc; split at hc <;> simp at hc
  case call cl =>
    obtain ⟨callee, args, ats⟩ := cl
    cases callee with
    | builtin b =>
      cases b <;> simp [cls] at hc
      simp only at h
      split at h
      · unfold builtinS at h
        split at h
        · unfold lenO at h
          split at h
          · cases h; rfl
          · cases h
        all_goals first | (rename_i e1 _; cases e1; done) | (cases h; done)
      · cases h
    | value f => simp [cls] at hc
    | invoke r m => simp [cls] at hc
  all_goals first | (simp [cls] at hc; done) | (cases h; done)
theorem allI_spec {f : Nat → Oper → Bool} : ∀ {l : List Oper} {k : Nat}, allI f k l = true → ∀ i o, l[i]? = some o → f (k + i) o = true
  | [], _, _, i, o, h => by simp at h
  | x :: xs, k, h, i, o, hi => by
    simp only [allI, Bool.and_eq_true] at h
    cases i with
    | zero => simp at hi; subst hi; exact h.1
    | succ i =>
      have := allI_spec h.2 i o (by simpa using hi)
      rw [show k + (i + 1) = k + 1 + i by omega]; exact this
theorem fold_bit {acc : List Nat} {e : Nat} : ∀ (l : List Nat) (m : Nat), (l.foldl (fun m e => m ||| (1 <<< e ||| acc.getD e 0)) m).testBit e = true →
    m.testBit e = true ∨ ∃ e1, e1 ∈ l ∧ (e1 = e ∨ (acc.getD e1 0).testBit e = true) := by
  intro l
  induction l with
  | nil => intro m h; exact .inl h
  | cons x xs ih =>
    intro m h
    simp only [List.foldl_cons] at h
    rcases ih _ h with h | ⟨e1, h1, h2⟩
    · rw [Nat.testBit_or, Nat.testBit_or] at h
      simp only [Bool.or_eq_true] at h
      rcases h with h | h | h
      · exact .inl h
      · refine .inr ⟨x, by simp, .inl ?_⟩
        rw [Nat.testBit_shiftLeft] at h
        simp at h
        obtain ⟨h1, h2⟩ := h
        have : e - x = 0 := by
          by_cases h0 : e - x = 0
          · exact h0
          · have := Nat.testBit_one_eq_true_iff_self_eq_zero.1 h2
            omega
        omega
      · exact .inr ⟨x, by simp, .inr h⟩
    · exact .inr ⟨e1, by simp [h1], h2⟩
theorem masks_ok {D : Nat → Prop} {ops : List Oper} (hD : ∀ j o, ops[j]? = some o → D j → ∀ e, e ∈ bindOn o → D e) : ∀ (os : List Oper) (acc : List Nat), ops.drop acc.length = os →
    (∀ j, D j → ∀ e, (acc.getD j 0).testBit e = true → D e) → ∀ j, D j → ∀ e, ((masks acc os).getD j 0).testBit e = true → D e := by
  intro os
  induction os with
  | nil => intro acc _ h; exact h
  | cons o os ih =>
    intro acc hd h
    simp only [masks]
    refine ih _ ?_ ?_
    · rw [List.length_append, List.length_singleton, ← List.drop_drop, hd]; rfl
    · intro j hj e he
      rcases Nat.lt_or_ge j acc.length with hlt | hge
      · refine h j hj e ?_
        rw [List.getD_eq_getElem?_getD, List.getElem?_append_left hlt] at he
        rw [List.getD_eq_getElem?_getD]; exact he
      · rw [List.getD_eq_getElem?_getD, List.getElem?_append_right hge] at he
        cases hk : j - acc.length with
        | succ k => rw [hk] at he; simp at he
        | zero =>
          rw [hk] at he
          simp only [List.getElem?_cons_zero, Option.getD_some] at he
          have hjl : j = acc.length := by omega
          subst hjl
          have ho : ops[acc.length]? = some o := by
            have := congrArg List.head? hd
            simpa [List.head?_drop] using this
          rcases fold_bit _ _ he with h0 | ⟨e1, h1, h2⟩
          · simp at h0
          · have hde := hD _ o ho hj e1 h1
            rcases h2 with rfl | h2
            · exact hde
            · exact h e1 hde e h2
structure Drawn (T : Tab) (ops : List Oper) (ms : List Nat) : Prop where
  low : ∀ (j : Nat) (o : Oper), ops[j]? = some o → ∀ e, e ∈ bindOn o → e < j
  one : ∀ (i j : Nat) (q o : Oper) (s : Nat), ops[i]? = some q → ops[j]? = some o → q.dst = some s → o.dst = some s → i = j
  data : ∀ (i j : Nat) (q o : Oper) (s : Nat), ops[i]? = some q → ops[j]? = some o → q.dst = some s → s ∈ tmpsOf ops o → (i < j ∧ ordB ms i j = true) ∨ (j < i ∧ ordB ms j i = true ∧ (cls T o.op).notLd = true)
  pair : ∀ (i j : Nat) (q o : Oper), ops[i]? = some q → ops[j]? = some o → unord ms i j = true → okPair (cls T q.op) (cls T o.op) = true
theorem drawn_of {ops : List Oper} {ms : List Nat} (h : drawOk T ops ms = true) : Drawn T ops ms := by
  unfold drawOk at h
  have H : ∀ j o, ops[j]? = some o → (bindOn o).all (fun e => Nat.blt e j) = true ∧ allI (okDraw1 T ops ms j o) 0 ops = true := fun j o ho => by
    have := allI_spec h j o ho
    simp only [Nat.zero_add, Bool.and_eq_true] at this
    exact this
  have H2 : ∀ i j q o, ops[i]? = some q → ops[j]? = some o → okDraw1 T ops ms j o i q = true := fun i j q o hi hj => by
    have := allI_spec (H j o hj).2 i q hi
    simpa using this
  refine ⟨fun j o ho e he => ?_, fun i j q o s hi hj hs ht => ?_, fun i j q o s hi hj hs ht => ?_, fun i j q o hi hj hu => ?_⟩
  · have := List.all_eq_true.1 (H j o ho).1 e he
    simpa using this
  · have := H2 i j q o hi hj
    unfold okDraw1 at this
    simp only [Bool.and_eq_true] at this
    have h1 := this.1.1
    simp only [hs, ht] at h1
    simpa using h1
  · have := H2 i j q o hi hj
    unfold okDraw1 at this
    simp only [Bool.and_eq_true] at this
    have h1 := this.1.2
    simp only [hs] at h1
    have hc : (tmpsOf ops o).contains s = true := by simpa using ht
    simp only [hc, Bool.not_true, Bool.false_or, Bool.or_eq_true, Bool.and_eq_true, Nat.blt_eq] at h1
    exact h1.imp id fun h => ⟨h.1.1, h.1.2, h.2⟩
  · have := H2 i j q o hi hj
    unfold okDraw1 at this
    simp only [Bool.and_eq_true, hu] at this
    simpa using this.2
theorem unord_lt {ms : List Nat} {i j : Nat} (h : i < j) (hu : unord ms i j = false) : ordB ms i j = true := by
  unfold unord at hu
  simp only [Bool.or_eq_false_iff] at hu
  have := hu.1
  have hb : Nat.blt i j = true := by simpa using h
  rw [hb] at this
  simpa using this
theorem unord_comm {ms : List Nat} {i j : Nat} : unord ms i j = unord ms j i := by
  unfold unord; rw [Bool.or_comm]
end Go.Proofs.Ytikennabfbkdhaa
