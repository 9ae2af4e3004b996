/- The evaluator S: regions whose order is drawn. First: what an operation hangs on. -/
import Derived.Test.YtjfegdlgepbjoaaSs
namespace Go.Proofs.Ytjfegdlgepbjoaa
open Go
set_option linter.unusedVariables false
set_option linter.unusedSimpArgs false
variable {P : Program} {T : Tab}

theorem evP_congr {env env' : Env} {x : Operand} (h : ev env x = ev env' x) : evP env x = evP env' x := by
  unfold evP
  split
  · rfl
  · rw [h]

theorem argO_congr {env env' : Env} {p : Operand × Nat} (h : ev env p.1 = ev env' p.1) : argO T env p = argO T env' p := by
  unfold argO
  split
  · rfl
  · exact h

theorem map_congr' {α β : Type} {f g : α → β} : ∀ (l : List α), (∀ x, x ∈ l → f x = g x) → l.map f = l.map g := fun l h => List.map_congr_left h

theorem opS_congr {c : Cx} {env env' : Env} {os : List SO} {o : Oper} (h : ∀ x, x ∈ o.op.operands → ev env x = ev env' x) : opS c env os o = opS c env' os o := by
  obtain ⟨dst, op, type, pos, after, guard⟩ := o
  have hP : ∀ x, x ∈ op.operands → evP env x = evP env' x := fun x hx => evP_congr (h x hx)
  cases op <;> simp only [Op.operands] at h hP
  case move x => simp only [opS, hP x (by simp)]
  case assign x => simp only [opS, hP x (by simp)]
  case pick b x y => simp only [opS, h b (by simp), h x (by simp), h y (by simp)]
  case alloc t => rfl
  case box t x => simp only [opS, hP x (by simp)]
  case build t ps =>
    have : ps.toList.map (fun p => (p.1, evP env p.2)) = ps.toList.map (fun p => (p.1, evP env' p.2)) := map_congr' _ fun p hp => by
      rw [hP p.2 (by simp only [List.mem_toArray, List.mem_map]; exact ⟨p, hp, rfl⟩)]
    simp only [opS, this]
  case buildSlice t n ps =>
    have : ps.toList.map (fun p => (p.1, ev env p.2)) = ps.toList.map (fun p => (p.1, ev env' p.2)) := map_congr' _ fun p hp => by
      rw [h p.2 (by simp only [List.mem_toArray, List.mem_map]; exact ⟨p, hp, rfl⟩)]
    simp only [opS, this]
  case load t x => simp only [opS, h x (by simp)]
  case store t x y => simp only [opS, h x (by simp), hP y (by simp)]
  case nilCheck x => simp only [opS, h x (by simp)]
  case binOp b t x y z => simp only [opS, h x (by simp), h y (by simp)]
  case unOp u t x => simp only [opS, h x (by simp)]
  case convert s d x => simp only [opS, h x (by simp)]
  case makeSlice t x y => simp only [opS, h x (by simp), h y (by simp)]
  case slice t x lo hi mx =>
    cases mx with
    | some m =>
      cases lo with
      | some l => rfl
      | none =>
        cases hi with
        | none => rfl
        | some z => simp only [opS, h x (by simp), h z (by simp), h m (by simp)]
    | none =>
      have h1 : lo.map (ev env) = lo.map (ev env') := by
        cases lo with
        | none => rfl
        | some z => simp only [Option.map_some, h z (by simp)]
      have h2 : hi.map (ev env) = hi.map (ev env') := by
        cases hi with
        | none => rfl
        | some z => simp only [Option.map_some, h z (by simp)]
      simp only [opS, h x (by simp), h1, h2]
  case fieldAddr t x f => simp only [opS, h x (by simp)]
  case field t x f => simp only [opS, h x (by simp)]
  case indexAddr t x y => simp only [opS, h x (by simp), h y (by simp)]
  case index t x y => simp only [opS, h x (by simp), h y (by simp)]
  case extract x i => simp only [opS, h x (by simp)]
  case makeFunc fn first captured =>
    have : captured.toList.map (ev env) = captured.toList.map (ev env') := map_congr' _ fun p hp => h p (by simp at hp; simp [hp])
    cases fn <;> simp only [opS, this]
  case call cl =>
    obtain ⟨callee, args, ats⟩ := cl
    cases callee with
    | invoke r m => rfl
    | builtin b =>
      have : args.toList.map (ev env) = args.toList.map (ev env') := map_congr' _ fun p hp => h p (by simp at hp; simp [Call.operands, hp])
      simp only [opS, this]
    | value f =>
      have : (args.toList.zip ats.toList).map (argO c.T env) = (args.toList.zip ats.toList).map (argO c.T env') := map_congr' _ fun p hp => argO_congr (h p.1 (by
        have := (List.of_mem_zip hp).1
        simp at this; simp [Call.operands, this]))
      simp only [opS, this, h f (by simp [Call.operands])]
  all_goals rfl

theorem look_kill_in (env : Env) (t : Nat) : ∀ (al : List Nat), t ∈ al → look t (killS al env) = look t env := by
  intro al
  induction al with
  | nil => intro h; cases h
  | cons x xs ih =>
    intro h
    simp only [killS, look]
    split
    · rename_i e; rw [Nat.eq_of_beq_eq_true e]
    · rename_i e
      rcases List.mem_cons.1 h with rfl | h
      · rw [Nat.beq_refl] at e; cases e
      · exact ih h

theorem look_kill_or (env : Env) (t : Nat) : ∀ (al : List Nat), (t ∈ al ∧ look t (killS al env) = look t env) ∨ look t (killS al env) = .dead := by
  intro al
  by_cases h : t ∈ al
  · exact .inl ⟨h, look_kill_in env t al h⟩
  · refine .inr ?_
    induction al with
    | nil => rfl
    | cons x xs ih =>
      simp only [killS, look]
      split
      · rename_i e; rw [Nat.eq_of_beq_eq_true e] at h; simp at h
      · exact ih (fun hh => h (List.mem_cons_of_mem _ hh))

theorem ev_kill {env : Env} {al : List Nat} {x : Operand} (h : ∀ t, x = .tmp t → t ∈ al) : ev (killS al env) x = ev env x := by
  cases x with
  | tmp t => exact look_kill_in env t al (h t rfl)
  | const v => rfl
  | func f => rfl
  | global g => rfl

theorem op1_kill {c : Cx} {ops : List Oper} {env : Env} {os : List SO} {o : Oper} : op1 c ops (killS (tmpsOf ops o) env) os o = op1 c ops env os o := by
  have hop : opS c (killS (tmpsOf ops o) env) os o = opS c env os o := opS_congr fun x hx => ev_kill fun t e => by
    subst e
    unfold tmpsOf
    refine List.mem_append.2 (.inl (List.mem_filterMap.2 ⟨_, by simpa using hx, rfl⟩))
  unfold op1
  cases hg : o.guard with
  | none => exact hop
  | some p =>
    obtain ⟨j, want⟩ := p
    have hgv : guardV ops (killS (tmpsOf ops o) env) j = guardV ops env j := by
      unfold guardV
      cases hj : ops[j]? with
      | none => rfl
      | some q =>
        cases hd : q.dst with
        | none => simp only [hd]
        | some t =>
          simp only [hd]
          refine look_kill_in env t _ ?_
          unfold tmpsOf
          refine List.mem_append.2 (.inr ?_)
          simp [hg, hj, hd]
    simp only [hop, hgv]

/-! ### the classes -/
theorem p_any {c : Cx} {env : Env} {os os1 : List SO} {o : Oper} {x : SV} (hc : cls c.T o.op = .p) (h : opS c env os o = some (x, os1)) :
    os1 = os ∧ ∀ os2, opS c env os2 o = some (x, os2) := by
  have R : ∀ {y : Option SV}, ret1 y os = some (x, os1) → os1 = os ∧ ∀ os2, ret1 y os2 = some (x, os2) := fun h => by
    obtain ⟨h1, h2⟩ := ret1_eq h
    exact ⟨h2, fun os2 => by rw [h1]; rfl⟩
  obtain ⟨dst, op, type, pos, after, guard⟩ := o
  have N : ∀ y : Operand, y ≠ .const (.slice none 0 0) → ∀ os, evN c.T type os (evP env y) = some (ev env y, os) := fun y hy os => by
    unfold evP
    split
    · exact absurd rfl hy
    · rfl
  cases op <;> simp only [opS] at h ⊢
  case move y =>
    have hy : y ≠ .const (.slice none 0 0) := fun e => by subst e; simp [cls] at hc
    rw [N y hy] at h; cases h
    exact ⟨rfl, fun os2 => N y hy os2⟩
  case assign y =>
    have hy : y ≠ .const (.slice none 0 0) := fun e => by subst e; simp [cls] at hc
    rw [N y hy] at h; cases h
    exact ⟨rfl, fun os2 => N y hy os2⟩
  case pick b y z => exact R h
  case nilCheck y => exact R h
  case binOp b t y z u => exact R h
  case unOp u t y => exact R h
  case fieldAddr t y f => exact R h
  case field t y f => exact R h
  case index t y z => exact R h
  case extract y i => exact R h
  case makeFunc fn first captured =>
    cases fn with
    | func f =>
      simp only at h ⊢
      split at h
      · rename_i hf; cases h; exact ⟨rfl, fun os2 => by first | rfl | simp [hf]⟩
      · cases h
    | _ => cases h
  case convert s d y =>
    simp only [cls] at hc
    split at hc
    · rename_i k k' h1 h2
      unfold convS at h ⊢
      simp only [h1, h2] at h ⊢
      split at h
      · rename_i e1 e2 e3; cases h; cases e1; cases e2; simp [e3]
      · rename_i e1 e2; cases e1
      · rename_i e1 e2; cases e1
      · rename_i e1 e2; cases e1
      · cases h
    · cases hc
  case call cl =>
    obtain ⟨callee, args, ats⟩ := cl
    cases callee with
    | builtin b =>
      simp only at h ⊢
      split at h
      · rename_i hsz
        cases b <;> simp [cls] at hc
        all_goals
          unfold builtinS at h ⊢
          split at h <;> first | (rename_i e1 e2; cases e1; done) | (cases h; done) | skip
          rename_i e2
          refine ⟨(R h).1, fun os2 => ?_⟩
          rw [if_pos hsz]
          exact (R h).2 os2
      · cases h
    | value f => simp [cls] at hc
    | invoke r m => simp [cls] at hc; try cases h
  all_goals first | (simp [cls] at hc; done) | (cases h; done)

end Go.Proofs.Ytjfegdlgepbjoaa
