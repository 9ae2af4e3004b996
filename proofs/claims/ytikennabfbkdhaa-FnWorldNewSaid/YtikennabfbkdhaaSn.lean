/- The evaluator S and what it says of functions: Sm, Sn. -/
import Derived.Test.YtikennabfbkdhaaSl
/- The evaluator S: every operation but a call of a function is sound. -/
namespace Go.Proofs.Ytikennabfbkdhaa
open Go
set_option linter.unusedVariables false
set_option linter.unusedSimpArgs false
variable {P : Program} {T : Tab}
def OpOK (P : Program) (fr : Fr) (os : List SO) (g : Nat → Gh) (w : World) (os' : List SO) (x : SV) (o : Oper) (a : Act) : Prop :=
  ∀ next Q, (∀ v w', Res fr os g w os' x v w' → next (a.put o.dst v) w') → o.wp P a w next Q
theorem value_ok {fr : Fr} {os os' : List SO} {g : Nat → Gh} {w w' : World} {x : SV} {v : Value} {o : Oper} {a : Act} (h : (execOp a.eval o).run P w = .ok (.value v) w')
    (hr : Res fr os g w os' x v w') : OpOK P fr os g w os' x o a := by
  intro next Q hn
  unfold Oper.wp
  rw [h]
  exact hn v w' hr
theorem skip_ok {fr : Fr} {os os' : List SO} {g : Nat → Gh} {w w' : World} {o : Oper} {a : Act} (h : (execOp a.eval o).run P w = .ok .skip w')
    (hr : Res fr os g w os' .undef undef w') : OpOK P fr os g w os' .undef o a := by
  intro next Q hn
  unfold Oper.wp
  rw [h]
  exact hn undef w' hr
theorem ret1_eq {x : Option SV} {os os' : List SO} {y : SV} (h : ret1 x os = some (y, os')) : x = some y ∧ os' = os := by
  unfold ret1 at h
  split at h
  · obtain ⟨rfl, rfl⟩ := Prod.mk.inj (Option.some.inj h); exact ⟨rfl, rfl⟩
  · simp at h
theorem pick_rep {w : World} {B : Nat → Prop} {g : Nat → Gh} {c a b r : SV} {cv av bv : Value} (hc : RepV w B g c cv) (ha : RepV w B g a av) (hb : RepV w B g b bv) (h : pickS c a b = some r) :
    ∃ t, cv = .bool t ∧ RepV w B g r (if t then av else bv) := by
  unfold pickS at h
  split at h
  · rename_i t
    obtain rfl := Option.some.inj h
    obtain rfl := v_rep hc
    refine ⟨t, rfl, ?_⟩
    cases t
    · exact hb
    · exact ha
  · simp at h
theorem nil_rep {w : World} {B : Nat → Prop} {g : Nat → Gh} {x r : SV} {v : Value} (hx : RepV w B g x v) (h : nilS x = some r) : (∃ a, v = .pointer (some a)) ∧ RepV w B g r v := by
  unfold nilS at h
  split at h
  · obtain rfl := Option.some.inj h
    cases hx with | ptr hp => exact ⟨⟨_, rfl⟩, .ptr hp⟩
  · obtain rfl := Option.some.inj h
    cases hx with | ap hp => exact ⟨⟨_, rfl⟩, .ap hp⟩
  · obtain rfl := Option.some.inj h
    cases hx with | el h1 h2 h3 => exact ⟨⟨_, rfl⟩, .el h1 h2 h3⟩
  · simp at h
theorem extract_rep {w : World} {B : Nat → Prop} {g : Nat → Gh} {x r : SV} {v : Value} {i : Nat} (hx : RepV w B g x v) (h : extractS x i = some r) :
    ∃ u, (Instr.extract v i).run P w = .ok u w ∧ RepV w B g r u := by
  unfold extractS at h
  split at h
  · cases hx with
    | tup h1 h2 =>
      obtain ⟨u, hu, hr⟩ := RepL.get ⟨h1, h2⟩ h
      exact ⟨u, by simp [Instr.extract, hu], hr⟩
  · simp at h
theorem len_rep (hT : TabOk P T) {fr : Fr} {os : List SO} {g : Nat → Gh} {w : World} (hm : Mem fr os g w) {t ty : Nat} {x : SV} {xv : Value} {n : Nat} (hx : RepV w (Bk fr os g w) g x xv)
    (h : lenS T t os x = some n) : (Builtin.len_ #[t] ty #[xv]).run P w = .ok (.int .i64 (n : Int)) w := by
  unfold lenS at h
  split at h
  · rename_i hu
    split at h
    · rename_i s
      obtain rfl := Option.some.inj h
      obtain rfl := v_rep hx
      simp [Builtin.len_, run_underlying (hT.str t hu), goInt]
    · simp at h
  · rename_i e hu
    have fin : ∀ a c (m : Nat), xv = .slice a m c → (Builtin.len_ #[t] ty #[xv]).run P w = .ok (.int .i64 (m : Int)) w := by
      intro a c m e
      subst e
      simp [Builtin.len_, run_underlying (hT.slice t _ hu), goInt]
    split at h
    · rename_i j lo hi
      split at h
      · rename_i p hp
        obtain rfl := Option.some.inj h
        cases hx with
        | vw0 => exact fin _ _ _ (by rw [Nat.sub_self])
        | vw _ _ _ _ => exact fin _ _ _ rfl
      · simp at h
    · split at h
      · rename_i p hp
        obtain rfl := Option.some.inj h
        obtain ⟨sz, l⟩ := p
        obtain ⟨a, c, e, _⟩ := elems_rep hm hx hp
        exact fin a c _ e
      · simp at h
  · simp at h
theorem min_rep {w : World} {B : Nat → Prop} {g : Nat → Gh} {x y r : SV} {xv yv : Value} {ts : Array TypeId} {ty : Nat} (hx : RepV w B g x xv) (hy : RepV w B g y yv) (h : minS x y = some r) :
    ∃ v, (Builtin.min_ ts ty #[xv, yv]).run P w = .ok v w ∧ RepV w B g r v := by
  unfold minS at h
  split at h
  · obtain rfl := Option.some.inj h
    obtain rfl := v_rep hx
    obtain rfl := v_rep hy
    exact ⟨_, run_min_int2 w _ _ _ _ _ _, .v rfl⟩
  · simp at h
theorem max_rep {w : World} {B : Nat → Prop} {g : Nat → Gh} {x y r : SV} {xv yv : Value} {ts : Array TypeId} {ty : Nat} (hx : RepV w B g x xv) (hy : RepV w B g y yv) (h : maxS x y = some r) :
    ∃ v, (Builtin.max_ ts ty #[xv, yv]).run P w = .ok v w ∧ RepV w B g r v := by
  unfold maxS at h
  split at h
  · obtain rfl := Option.some.inj h
    obtain rfl := v_rep hx
    obtain rfl := v_rep hy
    refine ⟨_, run_max_int2 w _ _ _ _ _ _, ?_⟩
    exact .v rfl
  · simp at h
theorem builtin_rep (hT : TabOk P T) {c : Cx} (hc : c.T = T) {fr : Fr} {os os1 : List SO} {g : Nat → Gh} {w : World} (hm : Mem fr os g w) {b : Builtin} {ts : Array TypeId} {ty : Nat} {cs : Array Bool} {xs : List SV} {vs : List Value} {y : SV}
    (hx : RepL w (Bk fr os g w) g xs vs) (h : builtinS c os b ts.toList xs = some (y, os1)) (hts : ts.size = xs.length) :
    ∃ v w', (builtin b ts ty cs vs.toArray).run P w = .ok (.value v) w' ∧ Res fr os g w os1 y v w' := by
  subst hc
  unfold builtinS at h
  split at h
  · obtain ⟨xv, vs', rfl, h1, h2⟩ := hx.uncons
    obtain rfl : vs' = [] := by have := h2.1; cases vs' <;> simp at this ⊢
    obtain ⟨t, rfl⟩ : ∃ t, ts = #[t] := by
      obtain ⟨l⟩ := ts
      match l, hts with | [t], _ => exact ⟨t, rfl⟩
    unfold lenO at h
    split at h
    · rename_i n hn
      obtain ⟨rfl, rfl⟩ := Prod.mk.inj (Option.some.inj h)
      have hl : (Builtin.len_ #[t] ty #[xv]).run P w = .ok (.int .i64 (n : Int)) w := len_rep hT hm h1 hn
      exact ⟨_, w, by simp [builtin, hl], Res.same hm (.v rfl)⟩
    · simp at h
  · obtain ⟨sv, vs', rfl, h1, h2⟩ := hx.uncons
    obtain ⟨xv, vs', rfl, h3, h4⟩ := h2.uncons
    obtain rfl : vs' = [] := by have := h4.1; cases vs' <;> simp at this ⊢
    obtain ⟨t, t', rfl⟩ : ∃ t t', ts = #[t, t'] := by
      obtain ⟨l⟩ := ts
      match l, hts with | [t, t'], _ => exact ⟨t, t', rfl⟩
    obtain ⟨v, w', hr, hres⟩ := append_rep (ty := ty) hT hm h1 h3 h
    have hl : (Builtin.append_ #[t, t'] ty #[sv, xv]).run P w = .ok v w' := hr
    exact ⟨v, w', by simp [builtin, hl], hres⟩
  · obtain ⟨sv, vs', rfl, h1, h2⟩ := hx.uncons
    obtain ⟨xv, vs', rfl, h3, h4⟩ := h2.uncons
    obtain rfl : vs' = [] := by have := h4.1; cases vs' <;> simp at this ⊢
    obtain ⟨t, t', rfl⟩ : ∃ t t', ts = #[t, t'] := by
      obtain ⟨l⟩ := ts
      match l, hts with | [t, t'], _ => exact ⟨t, t', rfl⟩
    obtain ⟨v, w', hr, hres⟩ := copy_rep (t' := t') (ty := ty) hT hm h1 h3 h
    have hl : (Builtin.copy_ #[t, t'] ty #[sv, xv]).run P w = .ok v w' := hr
    exact ⟨v, w', by simp [builtin, hl], hres⟩
  · obtain ⟨sv, vs', rfl, h1, h2⟩ := hx.uncons
    obtain ⟨xv, vs', rfl, h3, h4⟩ := h2.uncons
    obtain rfl : vs' = [] := by have := h4.1; cases vs' <;> simp at this ⊢
    obtain ⟨h5, rfl⟩ := ret1_eq h
    obtain ⟨v, hr, hrep⟩ := min_rep (P := P) (ts := ts) (ty := ty) h1 h3 h5
    exact ⟨v, w, by simp [builtin, hr], Res.same hm hrep⟩
  · obtain ⟨sv, vs', rfl, h1, h2⟩ := hx.uncons
    obtain ⟨xv, vs', rfl, h3, h4⟩ := h2.uncons
    obtain rfl : vs' = [] := by have := h4.1; cases vs' <;> simp at this ⊢
    obtain ⟨h5, rfl⟩ := ret1_eq h
    obtain ⟨v, hr, hrep⟩ := max_rep (P := P) (ts := ts) (ty := ty) h1 h3 h5
    exact ⟨v, w, by simp [builtin, hr], Res.same hm hrep⟩
  · simp at h
theorem map_rep {w : World} {B : Nat → Prop} {g : Nat → Gh} {env : Env} {a : Act} (hs : Slots w B g env a.tmps) (l : List Operand) : RepL w B g (l.map (ev env)) (l.map a.eval) :=
  ⟨by simp, fun i x v h1 h2 => by
    rw [List.getElem?_map] at h1 h2
    obtain ⟨b, hb, rfl⟩ := Option.map_eq_some_iff.1 h1
    rw [hb] at h2
    obtain rfl := Option.some.inj h2
    exact ev_rep hs b⟩
def CallOK (P : Program) (c : Cx) : Prop :=
  ∀ (fr : Fr) (os os1 : List SO) (g : Nat → Gh) (w : World) (env : Env) (a : Act) (o : Oper) (f : Operand) (args : Array Operand) (ts : Array TypeId) (y : SV), Mem fr os g w → Slots w (Bk fr os g w) g env a.tmps →
    o.op = .call { callee := .value f, args := args, argTypes := ts } → ts.size = args.size → calleeS c os (ev env f) ((args.toList.zip ts.toList).map (argO c.T env)) = some (y, os1) → OpOK P fr os g w os1 y o a
theorem op_rep {c : Cx} (hT : TabOk P c.T) (hK : CallOK P c) {fr : Fr} {os os1 : List SO} {g : Nat → Gh} {w : World} (hm : Mem fr os g w) {env : Env} {a : Act} (hs : Slots w (Bk fr os g w) g env a.tmps) {o : Oper} {y : SV}
    (h : opS c env os o = some (y, os1)) : OpOK P fr os g w os1 y o a := by
  unfold opS at h
  split at h
  · rename_i x ho
    exact value_ok (by simp [execOp, ho]) (evN_rep hm hs h)
  · rename_i x ho
    exact value_ok (by simp [execOp, ho]) (evN_rep hm hs h)
  · rename_i b x z ho
    obtain ⟨h1, rfl⟩ := ret1_eq h
    obtain ⟨t, e, hr⟩ := pick_rep (ev_rep hs b) (ev_rep hs x) (ev_rep hs z) h1
    refine value_ok (v := if t then a.eval x else a.eval z) ?_ (Res.same hm hr)
    simp [execOp, ho, e, asBool]
  · rename_i t ho
    obtain ⟨v, w', hr, hres⟩ := alloc_rep hT hm h
    exact value_ok (by simp [execOp, ho, hr]) hres
  · rename_i t x ho
    obtain ⟨v, w', hr, hres⟩ := box_rep hT hm hs h
    exact value_ok (by simp [execOp, ho, hr]) hres
  · rename_i t ps ho
    obtain ⟨v, hr, hres⟩ := build_rep hT hm hs h
    refine value_ok (v := v) ?_ hres
    simp only [execOp, ho, Sem.run_bind]
    rw [hr]; rfl
  · rename_i t n ps ho
    obtain ⟨v, w', hr, hres⟩ := buildSliceO_rep hT hm hs h
    refine value_ok (v := v) ?_ hres
    simp only [execOp, ho, Sem.run_bind]
    rw [hr]; rfl
  · rename_i t x ho
    obtain ⟨h1, rfl⟩ := ret1_eq h
    obtain ⟨v, hr, hrep⟩ := load_rep hT hm (ev_rep hs x) h1
    exact value_ok (by simp [execOp, ho, hr]) (Res.same hm hrep)
  · rename_i t p x ho
    unfold storeO at h
    split at h
    · rename_i z os2 hz
      split at h
      · rename_i z' os2' hd
        split at h
        · rename_i os3 h3
          obtain ⟨rfl, rfl⟩ := Prod.mk.inj (Option.some.inj h)
          obtain ⟨g1, m1, gr1, r1⟩ := evN_rep hm hs hz
          obtain ⟨m1', gr1', r1'⟩ := deVw_rep m1 r1 hd
          obtain ⟨w', hr, m2, gr2⟩ := store_rep hT m1' ((ev_rep hs p).grow (gr1.trans gr1')) r1' h3
          exact skip_ok (by simp [execOp, ho, hr]) ⟨g1, m2, (gr1.trans gr1').trans gr2, .undef⟩
        · simp at h
      · simp at h
    · simp at h
  · rename_i x ho
    obtain ⟨h1, rfl⟩ := ret1_eq h
    obtain ⟨⟨p, e⟩, hrep⟩ := nil_rep (ev_rep hs x) h1
    exact value_ok (v := a.eval x) (by simp [execOp, ho, e]) (Res.same hm hrep)
  · rename_i op t x z zt ho
    obtain ⟨h1, rfl⟩ := ret1_eq h
    obtain ⟨v, hr, hrep⟩ := bin_rep (P := P) (xo := x) (yo := z) hT (ev_rep hs x) (ev_rep hs z) h1
    refine value_ok (v := v) ?_ (Res.same hm hrep)
    simp only [execOp, ho, Sem.run_bind]
    simp only [Sem.run_bind] at hr
    rw [hr]; rfl
  · rename_i op t x ho
    obtain ⟨h1, rfl⟩ := ret1_eq h
    obtain ⟨v, hr, hrep⟩ := un_rep (P := P) (ev_rep hs x) h1
    exact value_ok (by simp [execOp, ho, hr]) (Res.same hm hrep)
  · rename_i s d x ho
    obtain ⟨v, w', hr, hres⟩ := conv_rep hT hm (ev_rep hs x) h
    exact value_ok (by simp [execOp, ho, hr]) hres
  · rename_i t n k ho
    obtain ⟨v, w', hr, hres⟩ := make_rep hT hm (ev_rep hs n) (ev_rep hs k) h
    exact value_ok (by simp [execOp, ho, hr]) hres
  · rename_i t x lo hi ho
    obtain ⟨h1, rfl⟩ := ret1_eq h
    obtain ⟨v, hr, hrep⟩ := slice_rep (lov := lo.map a.eval) (hiv := hi.map a.eval) hT hm (ev_rep hs x) (fun e => by cases hi <;> simp at e ⊢) (fun z e => by
      cases hi with
      | none => simp at e
      | some q => simp at e; subst e; exact ⟨_, rfl, ev_rep hs q⟩) (fun e => by cases lo <;> simp at e ⊢) (fun z e => by
      cases lo with
      | none => simp at e
      | some q => simp at e; subst e; exact ⟨_, rfl, ev_rep hs q⟩) h1
    exact value_ok (by simp [execOp, ho, hr]) (Res.same hm hrep)
  · rename_i t x hi m ho
    obtain ⟨h1, rfl⟩ := ret1_eq h
    obtain ⟨v, hr, hrep⟩ := slice3_rep hT (ev_rep hs x) (ev_rep hs hi) (ev_rep hs m) h1
    exact value_ok (by simp [execOp, ho, hr]) (Res.same hm hrep)
  · rename_i t x f ho
    obtain ⟨h1, rfl⟩ := ret1_eq h
    obtain ⟨v, hr, hrep⟩ := fieldAddr_rep hT (ev_rep hs x) h1
    exact value_ok (by simp [execOp, ho, hr]) (Res.same hm hrep)
  · rename_i t x f ho
    obtain ⟨h1, rfl⟩ := ret1_eq h
    obtain ⟨v, hr, hrep⟩ := field_rep hT (ev_rep hs x) h1
    exact value_ok (by simp [execOp, ho, hr]) (Res.same hm hrep)
  · rename_i t x i ho
    obtain ⟨h1, rfl⟩ := ret1_eq h
    obtain ⟨v, hr, hrep⟩ := indexAddr_rep hT hm (ev_rep hs x) (ev_rep hs i) h1
    exact value_ok (by simp [execOp, ho, hr]) (Res.same hm hrep)
  · rename_i t x i ho
    obtain ⟨h1, rfl⟩ := ret1_eq h
    obtain ⟨v, hr, hrep⟩ := index_rep hT (ev_rep hs x) (ev_rep hs i) h1
    exact value_ok (by simp [execOp, ho, hr]) (Res.same hm hrep)
  · rename_i x i ho
    obtain ⟨h1, rfl⟩ := ret1_eq h
    obtain ⟨v, hr, hrep⟩ := extract_rep (P := P) (ev_rep hs x) h1
    exact value_ok (by simp [execOp, ho, hr]) (Res.same hm hrep)
  · rename_i f fs caps ho
    split at h
    · rename_i hf
      obtain ⟨rfl, rfl⟩ := Prod.mk.inj (Option.some.inj h)
      have e : fs = #[] := by cases fs; simp at hf; simp [hf]
      subst e
      refine value_ok (v := .func (.func f) #[] (caps.toList.map a.eval).toArray) ?_ (Res.same hm ?_)
      · simp [execOp, ho, Instr.makeFunc]
        rw [← Array.toList_map, Array.toArray_toList]
      · have := map_rep hs caps.toList
        exact .fn this.1 this.2
    · simp at h
  · rename_i b args ts ho
    split at h
    · rename_i hsz
      obtain ⟨v, w', hr, hres⟩ := builtin_rep (P := P) (ty := o.type) (cs := args.map fun | .const _ => true | _ => false) hT rfl hm (map_rep hs args.toList) h (by simpa using hsz)
      refine value_ok (v := v) ?_ hres
      have e : (args.toList.map a.eval).toArray = args.map a.eval := by rw [← Array.toList_map, Array.toArray_toList]
      rw [e] at hr
      simp only [execOp, ho, resolve, Sem.run_bind, Sem.run_pure, Result.andThen_ok, invoke]
      exact hr
    · simp at h
  · rename_i f args ts ho
    split at h
    · rename_i hsz
      exact hK fr os os1 g w env a o f args ts y hm hs ho hsz h
    · simp at h
  · simp at h
end Go.Proofs.Ytikennabfbkdhaa

/- The evaluator S: code is sound, where its operations are. -/
namespace Go.Proofs.Ytikennabfbkdhaa
open Go
set_option linter.unusedVariables false
set_option linter.unusedSimpArgs false
variable {P : Program} {T : Tab}
def Inv (fr : Fr) (g0 : Nat → Gh) (nl nt : Nat) (env : Env) (os : List SO) (a : Act) (w : World) : Prop :=
  ∃ g, Mem fr os g w ∧ Slots w (Bk fr os g w) g env a.tmps ∧ nt ≤ a.tmps.size ∧ a.defers = [] ∧ nl ≤ os.length ∧ ∀ j, j < nl → g0 j ≠ .no → g j = g0 j
def PostK (fr : Fr) (g0 : Nat → Gh) (nl nt : Nat) (k : Kt) (out : SV × List SO) (e : Exit) (a : Act) (w : World) : Prop :=
  ∃ env os, Inv fr g0 nl nt env os a w ∧
    match e with
    | .normal => k.n env os = some out
    | .exit id => k.x id env os = some out
    | .ret => k.r env os = some out
    | _ => False
theorem look_kill (env : Env) (t : Nat) : ∀ (al : List Nat), look t (killS al env) = look t env ∨ look t (killS al env) = .dead := by
  intro al
  induction al with
  | nil => exact .inr rfl
  | cons x xs ih =>
    simp only [killS, look]
    split
    · rename_i h
      rw [Nat.eq_of_beq_eq_true h]
      exact .inl rfl
    · exact ih
theorem slots_kill {w : World} {B : Nat → Prop} {g : Nat → Gh} {env : Env} {tmps : Array Value} (h : Slots w B g env tmps) (al : List Nat) : Slots w B g (killS al env) tmps := by
  intro t
  rcases look_kill env t al with e | e
  · rw [e]; exact h t
  · rw [e]; exact .dead
theorem inv_kill {fr : Fr} {g0 : Nat → Gh} {nl nt : Nat} {env : Env} {os : List SO} {a : Act} {w : World} (h : Inv fr g0 nl nt env os a w) (al : Option (List Nat)) : Inv fr g0 nl nt (killO al env) os a w := by
  obtain ⟨g, h1, h2, h3⟩ := h
  cases al with
  | none => exact ⟨g, h1, h2, h3⟩
  | some l => exact ⟨g, h1, slots_kill h2 l, h3⟩
theorem slots_put {w : World} {B : Nat → Prop} {g : Nat → Gh} {env : Env} {a : Act} {d : Option Nat} {x : SV} {v : Value} (h : Slots w B g env a.tmps) (hx : RepV w B g x v) (hd : okDst a.tmps.size d = true) :
    Slots w B g (put env d x) (a.put d v).tmps := by
  cases d with
  | none => exact h
  | some t =>
    intro s
    have hlt : t < a.tmps.size := by
      unfold okDst at hd
      simp only [Nat.blt_eq] at hd
      exact hd
    simp only [put, look, Act.put]
    split
    · rename_i e
      obtain rfl := Nat.eq_of_beq_eq_true e
      have : (a.tmps.setIfInBounds s v).getD s undef = v := by simp [Array.getD, hlt]
      rw [this]; exact hx
    · rename_i e
      have hne : t ≠ s := fun e' => by subst e'; rw [Nat.beq_refl] at e; cases e
      have : (a.tmps.setIfInBounds t v).getD s undef = a.tmps.getD s undef := by
        simp [Array.getElem?_setIfInBounds_ne hne]
      rw [this]; exact h s
theorem put_size (a : Act) (d : Option Nat) (v : Value) : (a.put d v).tmps.size = a.tmps.size := by
  cases d <;> simp [Act.put]
theorem put_defers (a : Act) (d : Option Nat) (v : Value) : (a.put d v).defers = a.defers := by
  cases d <;> rfl
theorem okDst_le {n m : Nat} {d : Option Nat} (h : okDst n d = true) (hn : n ≤ m) : okDst m d = true := by
  cases d with
  | none => rfl
  | some t =>
    simp only [okDst, Nat.blt_eq] at h ⊢
    omega
theorem inv_put {fr : Fr} {g0 g : Nat → Gh} {nl nt : Nat} {env : Env} {os os' : List SO} {a : Act} {w w' : World} {d : Option Nat} {x : SV} {v : Value} (hm : Mem fr os g w) (hs : Slots w (Bk fr os g w) g env a.tmps) (ht : nt ≤ a.tmps.size) (hdf : a.defers = [])
    (hl : nl ≤ os.length) (h0 : ∀ j, j < nl → g0 j ≠ .no → g j = g0 j) (hd : okDst nt d = true) (hr : Res fr os g w os' x v w') (hos : os.length ≤ os'.length) :
    Inv fr g0 nl nt (put env d x) os' (a.put d v) w' := by
  obtain ⟨g', m, gr, r⟩ := hr
  refine ⟨g', m, slots_put (hs.grow gr) r (okDst_le hd ht), by rw [put_size]; exact ht, by rw [put_defers]; exact hdf, by omega, fun j hj hn => ?_⟩
  rw [gr.ext j (by rw [h0 j hj hn]; exact hn), h0 j hj hn]
theorem rep_bool {w : World} {B : Nat → Prop} {g : Nat → Gh} {x : SV} {b : Bool} (h : RepV w B g x (.bool b)) (hd : x ≠ .dead) : x = .v (.bool b) := by
  cases h with
  | v h => rfl
  | dead => exact absurd rfl hd
theorem yielded_of {w : World} {B : Nat → Prop} {g : Nat → Gh} {env : Env} {a : Act} {ops : Array Oper} (hs : Slots w B g env a.tmps) (j : Nat) (hd : guardV ops.toList env j ≠ .dead) :
    (∀ b, guardV ops.toList env j = .v (.bool b) → yielded ops a.tmps j = some b) ∧ ((∀ b, guardV ops.toList env j ≠ .v (.bool b)) → yielded ops a.tmps j = none) := by
  unfold guardV at hd ⊢
  unfold yielded
  rw [Array.getElem?_toList] at hd ⊢
  cases ho : ops[j]? with
  | none => simp
  | some o =>
    simp only [ho] at hd ⊢
    cases hdst : o.dst with
    | none => simp [hdst]
    | some t =>
      simp only [hdst] at hd
      have hr := hs t
      simp only [hdst, Option.bind_some]
      refine ⟨fun b hb => ?_, fun hb => ?_⟩
      · rw [hb] at hr
        have hv := v_rep hr
        cases ht : a.tmps[t]? with
        | none => simp [Array.getD_eq_getD_getElem?, ht, undef] at hv
        | some v => simp [Array.getD_eq_getD_getElem?, ht] at hv; simp [ht, hv]
      · cases ht : a.tmps[t]? with
        | none => simp
        | some v =>
          cases v with
          | bool b =>
            have : a.tmps.getD t undef = .bool b := by simp [Array.getD_eq_getD_getElem?, ht]
            rw [this] at hr
            exact absurd (rep_bool hr hd) (hb b)
          | _ => rfl
theorem evN_len {ty : Nat} {os os' : List SO} {x : Option SV} {y : SV} (h : evN T ty os x = some (y, os')) : os.length ≤ os'.length := by
  unfold evN at h
  split at h
  · split at h
    · split at h
      · obtain ⟨_, rfl⟩ := Prod.mk.inj (Option.some.inj h); simp
      · simp at h
    · simp at h
  · obtain ⟨_, rfl⟩ := Prod.mk.inj (Option.some.inj h); exact Nat.le_refl _
def OpsOK (P : Program) (c : Cx) : Prop :=
  ∀ (fr : Fr) (os os1 : List SO) (g : Nat → Gh) (w : World) (env : Env) (a : Act) (o : Oper) (y : SV), Mem fr os g w → Slots w (Bk fr os g w) g env a.tmps → opS c env os o = some (y, os1) →
    OpOK P fr os g w os1 y o a ∧ os.length ≤ os1.length
theorem silent_op {c : Cx} {env : Env} {os : List SO} {o : Oper} {x : SV} (h : silent env o = some x) : o.guard = none ∧ opS c env os o = some (x, os) := by
  unfold silent at h
  split at h
  · simp at h
  · rename_i hg
    refine ⟨hg, ?_⟩
    split at h
    · rename_i y ho; simp only [opS, ho, h]; rfl
    · rename_i y ho; simp only [opS, ho, h]; rfl
    · rename_i f fs caps ho
      simp only [opS, ho]
      split at h
      · rename_i hf; obtain rfl := Option.some.inj h; first | rfl | (simp only [hf]) | (rw [hf])
      · simp at h
    · simp at h
theorem ops_sound {c : Cx} (hO : OpsOK P c) {fr : Fr} {g0 : Nat → Gh} {nl nt : Nat} {k : Kt} {out : SV × List SO} {ops : Array Oper} : ∀ (rest : List Oper) (i : Nat) (env : Env) (os : List SO) (a : Act) (w : World),
    ops.toList.drop i = rest → Inv fr g0 nl nt env os a w → runOps c nt ops.toList rest env os k.n = some out →
    wpOps P ops (PostK fr g0 nl nt k out) (List.range' i rest.length) a w := by
  intro rest
  induction rest with
  | nil =>
    intro i env os a w hd hi h
    exact ⟨env, os, hi, h⟩
  | cons o rest ih =>
    intro i env os a w hd hi h
    have hoi : ops[i]? = some o := by
      have := congrArg List.head? hd
      simpa [List.head?_drop] using this
    have hd' : ops.toList.drop (i + 1) = rest := by
      rw [← List.drop_drop, hd]; rfl
    rw [List.length_cons, List.range'_succ]
    simp only [wpOps, hoi]
    simp only [runOps] at h
    split at h
    · simp at h
    · rename_i hdst
      obtain ⟨g, m, hs, ht, hdf, hl, h0⟩ := hi
      have step : ∀ (x : SV) (os1 : List SO), opS c env os o = some (x, os1) → runOps c nt ops.toList rest (put env o.dst x) os1 k.n = some out →
          o.wp P a w (wpOps P ops (PostK fr g0 nl nt k out) (List.range' (i + 1) rest.length)) (PostK fr g0 nl nt k out) := by
        intro x os1 hx hk
        obtain ⟨hok, hle⟩ := hO fr os os1 g w env a o x m hs hx
        refine hok _ _ fun v w' hres => ?_
        exact ih (i + 1) _ _ _ _ hd' (inv_put m hs ht hdf hl h0 hdst hres hle) hk
      split at h
      · rename_i x hx
        obtain ⟨hg, hop⟩ := silent_op (c := c) (os := os) hx
        have hw : Region.wanted o (yielded ops a.tmps) = true := by simp [Region.wanted, hg]
        rw [if_pos hw]
        exact .inl (step x os hop h)
      · rename_i hx
        obtain ⟨r, hr, hk⟩ := Option.bind_eq_some_iff.1 h
        obtain ⟨x, os1⟩ := r
        unfold op1 at hr
        split at hr
        · rename_i hg
          have hw : Region.wanted o (yielded ops a.tmps) = true := by simp [Region.wanted, hg]
          rw [if_pos hw]
          exact .inl (step x os1 hr hk)
        · rename_i j want hg
          unfold gd at hr
          split at hr
          · rename_i b hb
            have hy := (yielded_of (ops := ops) hs j (by rw [hb]; simp)).1 b hb
            split at hr
            · rename_i e
              have hw : Region.wanted o (yielded ops a.tmps) = true := by simp [Region.wanted, hg, hy, e]
              rw [if_pos hw]
              exact .inl (step x os1 hr hk)
            · rename_i e
              obtain ⟨rfl, rfl⟩ := Prod.mk.inj (Option.some.inj hr)
              have hw : ¬ Region.wanted o (yielded ops a.tmps) = true := by simp [Region.wanted, hg, hy, e]
              rw [if_neg hw]
              exact ih (i + 1) _ _ _ _ hd' (inv_put m hs ht hdf hl h0 hdst (Res.same m .undef) (Nat.le_refl _)) hk
          · simp at hr
          · rename_i hnb hnd
            obtain ⟨rfl, rfl⟩ := Prod.mk.inj (Option.some.inj hr)
            have hy := (yielded_of (ops := ops) hs j (fun e => hnd e)).2 (fun b e => hnb b e)
            have hw : ¬ Region.wanted o (yielded ops a.tmps) = true := by simp [Region.wanted, hg, hy]
            rw [if_neg hw]
            exact ih (i + 1) _ _ _ _ hd' (inv_put m hs ht hdf hl h0 hdst (Res.same m .undef) (Nat.le_refl _)) hk
def DrawOK (P : Program) (c : Cx) : Prop :=
  ∀ (fr : Fr) (g0 : Nat → Gh) (nl nt : Nat) (k : Kt) (out : SV × List SO) (d : Option DT) (ops : Array Oper) (env : Env) (os : List SO) (a : Act) (w : World) (t : Nat),
    Inv fr g0 nl nt env os a w → runDraw c nt d ops.toList env os k.n = some out →
    wpOps P ops (PostK fr g0 nl nt k out) (Region.schedule (P.follows .mixedOrders) ops t) a w
theorem inv_drawn {fr : Fr} {g0 : Nat → Gh} {nl nt : Nat} {env : Env} {os : List SO} {a : Act} {w : World} (h : Inv fr g0 nl nt env os a w) : Inv fr g0 nl nt env os a { w with drawn := w.drawn + 1 } := by
  obtain ⟨g, m, hs, rest⟩ := h
  have hB : ∀ b, Bk fr os g w b → Bk fr os g { w with drawn := w.drawn + 1 } b := fun b hb => hb
  have hS : ∀ b, Bk fr os g w b → ({ w with drawn := w.drawn + 1 } : World).heap[b]? = w.heap[b]? := fun _ _ => rfl
  refine ⟨g, ?_, fun t => (hs t).mono hB hS g (fun _ _ => rfl), rest⟩
  exact { objs := fun j o hj => (m.objs j o hj).mono hB hS (fun _ _ => rfl) (fun _ _ _ => rfl), fresh := m.fresh, inj := m.inj, own := m.own, mine := m.mine, frame := m.frame, size := m.size, out := m.out }
def GcOK (P : Program) : Prop :=
  ∀ (fr : Fr) (g0 : Nat → Gh) (nl nt : Nat) (env : Env) (os : List SO) (a : Act) (w : World), Inv fr g0 nl nt env os a w →
    ∀ keep, gcK nl env os = some keep → Inv fr g0 nl nt (renE (place keep) env) (gcO keep os) a w
theorem wp_loop_fuel {c : Code} {Q : Exit → Act → World → Prop} (I : Nat → Act → World → Prop) (h0 : ∀ a w, ¬ I 0 a w) (round : ∀ n a w, I (n + 1) a w → c.wp P (Exit.then (I n) Q) a w) {n : Nat} {a : Act} {w : World}
    (h : I n a w) : (Code.loop c).wp P Q a w := by
  intro b k cs
  have key : ∀ n a w, I n a w → ∃ e a' w', Q e a' w' ∧ Arrives P (lone (b.at a (.code c :: .inLoop c :: k)) cs w) b k cs e a' w' := by
    intro n
    induction n with
    | zero => intro a w h; exact absurd h (h0 a w)
    | succ n ih =>
      intro a w h
      obtain ⟨e, a₁, w₁, hq, harr⟩ := round n a w h b (.inLoop c :: k) cs
      cases e with
      | normal =>
        obtain ⟨e₂, a₂, w₂, hq₂, harr₂⟩ := ih a₁ w₁ hq
        exact ⟨e₂, a₂, w₂, hq₂, .of_steps (Steps.trans harr (.one step_inLoop)) harr₂⟩
      | exit id => exact ⟨_, a₁, w₁, hq, .pass (x := .inLoop c) rfl (fun _ _ => .inl (by simp)) harr⟩
      | goto l => exact ⟨_, a₁, w₁, hq, .pass (x := .inLoop c) rfl (fun _ _ => .inl (by simp)) harr⟩
      | ret => exact ⟨_, a₁, w₁, hq, .pass (x := .inLoop c) rfl (fun _ _ => .inl (by simp)) harr⟩
      | panic ch => exact ⟨_, a₁, w₁, hq, .pass (x := .inLoop c) rfl (fun _ _ => .inl (by simp)) harr⟩
      | outgrown => exact ⟨_, a₁, w₁, hq, .pass (x := .inLoop c) rfl (fun _ _ => .inl (by simp)) harr⟩
  obtain ⟨e, a', w', hq, harr⟩ := key n a w h
  exact ⟨e, a', w', hq, .of_steps (.one step_loop) harr⟩
theorem exec_sound {c : Cx} (hO : OpsOK P c) (hD : DrawOK P c) (hG : GcOK P) {fr : Fr} {g0 : Nat → Gh} {N nl : Nat} {fi : FnI} {out : SV × List SO} : ∀ (cd : Code) (env : Env) (os : List SO) (k : Kt) (a : Act) (w : World),
    Inv fr g0 nl fi.nt env os a w → exec c N nl fi cd env os k = some out → cd.wp P (PostK fr g0 nl fi.nt k out) a w := by
  intro cd
  induction cd with
  | skip => intro env os k a w hi h; exact wp_skip ⟨env, os, hi, h⟩
  | region id ops draw =>
    intro env os k a w hi h
    cases draw with
    | false =>
      simp only [exec] at h
      refine wp_region ?_
      have := ops_sound hO (k := k) ops.toList 0 env os a w rfl hi h
      rw [List.range_eq_range', ← Array.length_toList]
      exact this
    | true =>
      simp only [exec] at h
      refine wp_region_draw fun t => ?_
      exact hD fr g0 nl fi.nt k out (fi.dt _) ops env os a _ t (inv_drawn hi) h
  | seq x y ihx ihy =>
    intro env os k a w hi h
    simp only [exec] at h
    refine wp_seq (wp_mono (ihx env os _ a w hi h) fun e a' w' hq => ?_)
    obtain ⟨env', os', hi', hk⟩ := hq
    cases e with
    | normal => exact ihy _ _ _ _ _ (inv_kill hi' _) hk
    | exit id => exact ⟨env', os', hi', hk⟩
    | ret => exact ⟨env', os', hi', hk⟩
    | goto l => exact hk.elim
    | panic ch => exact hk.elim
    | outgrown => exact hk.elim
  | cond b x y ihx ihy =>
    intro env os k a w hi h
    simp only [exec] at h
    unfold condS at h
    split at h
    · rename_i t ht
      obtain ⟨g, m, hs, rest⟩ := hi
      have he : a.eval b = .bool t := by have := ev_rep hs b; rw [ht] at this; exact v_rep this
      refine wp_cond he ?_
      cases t with
      | true => exact ihx env os k a w ⟨g, m, hs, rest⟩ h
      | false => exact ihy env os k a w ⟨g, m, hs, rest⟩ h
    · simp at h
  | block id b ih =>
    intro env os k a w hi h
    simp only [exec] at h
    refine wp_block (wp_mono (ih env os _ a w hi h) fun e a' w' hq => ?_)
    obtain ⟨env', os', hi', hk⟩ := hq
    cases e with
    | normal => exact ⟨env', os', hi', hk⟩
    | exit id' =>
      simp only [kBlock] at hk
      simp only [Exit.inBlock]
      split
      · rename_i e
        rw [if_pos e] at hk
        exact ⟨env', os', hi', hk⟩
      · rename_i e
        rw [if_neg e] at hk
        exact ⟨env', os', hi', hk⟩
    | ret => exact ⟨env', os', hi', hk⟩
    | goto l => exact hk.elim
    | panic ch => exact hk.elim
    | outgrown => exact hk.elim
  | loop b ih =>
    intro env os k a w hi h
    simp only [exec] at h
    let F : Env → List SO → (Env → List SO → Out) → Out := fun env os nx => exec c N nl fi b env os (kLoop nx k)
    refine wp_loop_fuel (fun n a w => ∃ env os, Inv fr g0 nl fi.nt env os a w ∧ loopS nl (fi.lp (firstRegion b)) F n env os = some out) ?_ ?_ (n := N) ⟨_, _, inv_kill hi (some (fi.lp (firstRegion b)).alive), h⟩
    · rintro a w ⟨env, os, _, h⟩
      simp [loopS] at h
    · rintro n a w ⟨env, os, hi, h⟩
      have fin : ∀ env os, Inv fr g0 nl fi.nt env os a w → F env os (fun env os => loopS nl (fi.lp (firstRegion b)) F n (killS (fi.lp (firstRegion b)).alive env) os) = some out →
          b.wp P (Exit.then (fun a w => ∃ env os, Inv fr g0 nl fi.nt env os a w ∧ loopS nl (fi.lp (firstRegion b)) F n env os = some out) (PostK fr g0 nl fi.nt k out)) a w := by
        intro env os hi h
        refine wp_mono (ih env os _ a w hi h) fun e a' w' hq => ?_
        obtain ⟨env', os', hi', hk⟩ := hq
        cases e with
        | normal => exact ⟨_, _, inv_kill hi' (some (fi.lp (firstRegion b)).alive), hk⟩
        | exit id => exact ⟨env', os', hi', hk⟩
        | ret => exact ⟨env', os', hi', hk⟩
        | goto l => exact hk.elim
        | panic ch => exact hk.elim
        | outgrown => exact hk.elim
      simp only [loopS] at h
      split at h
      · obtain ⟨keep, hkp, h⟩ := Option.bind_eq_some_iff.1 h
        exact fin _ _ (hG fr g0 nl fi.nt env os a w hi keep hkp) h
      · exact fin _ _ hi h
  | exit i => intro env os k a w hi h; exact wp_exit ⟨env, os, hi, h⟩
  | ret => intro env os k a w hi h; exact wp_ret ⟨env, os, hi, h⟩
  | label l => intro env os k a w hi h; simp [exec] at h
  | goto l => intro env os k a w hi h; simp [exec] at h
  | refuse s => intro env os k a w hi h; simp [exec] at h
  | scope b _ => intro env os k a w hi h; simp [exec] at h
  | rangeFunc f ps x y _ _ => intro env os k a w hi h; simp [exec] at h
end Go.Proofs.Ytikennabfbkdhaa
