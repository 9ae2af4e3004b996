/- The evaluator S: every operation but a call of a function is sound. -/
import Derived.Test.YtjfegdlgepbjoaaSl
namespace Go.Proofs.Ytjfegdlgepbjoaa
open Go
set_option linter.unusedVariables false
set_option linter.unusedSimpArgs false
variable {P : Program} {T : Tab}

/-- Behind an operation: its value, the objects, the memory. -/
def OpOK (P : Program) (fr : Fr) (os : List SO) (g : Nat → Gh) (w : World) (os' : List SO) (x : SV) (o : Oper) (a : Act) : Prop :=
  ∀ next Q, (∀ v w', Res fr os g w os' x v w' → next (a.put o.dst v) w') → o.wp P a w next Q

theorem value_ok {fr : Fr} {os os' : List SO} {g : Nat → Gh} {w w' : World} {x : SV} {v : Value} {o : Oper} {a : Act} (h : (execOp a.eval o).run P w = .ok (.value v) w')
    (hr : Res fr os g w os' x v w') : OpOK P fr os g w os' x o a := by
  intro next Q hn
  unfold Oper.wp
  rw [h]
  exact hn v w' hr

theorem skip_ok {fr : Fr} {os os' : List SO} {g : Nat → Gh} {w w' : World} {o : Oper} {a : Act} (h : (execOp a.eval o).run P w = .ok .skip w')
    (hr : Res fr os g w os' .undef undef w') : OpOK P fr os g w os' .undef o a := by
  intro next Q hn
  unfold Oper.wp
  rw [h]
  exact hn undef w' hr

theorem ret1_eq {x : Option SV} {os os' : List SO} {y : SV} (h : ret1 x os = some (y, os')) : x = some y ∧ os' = os := by
  unfold ret1 at h
  split at h
  · obtain ⟨rfl, rfl⟩ := Prod.mk.inj (Option.some.inj h); exact ⟨rfl, rfl⟩
  · simp at h

theorem pick_rep {w : World} {B : Nat → Prop} {g : Nat → Gh} {c a b r : SV} {cv av bv : Value} (hc : RepV w B g c cv) (ha : RepV w B g a av) (hb : RepV w B g b bv) (h : pickS c a b = some r) :
    ∃ t, cv = .bool t ∧ RepV w B g r (if t then av else bv) := by
  unfold pickS at h
  split at h
  · rename_i t
    obtain rfl := Option.some.inj h
    obtain rfl := v_rep hc
    refine ⟨t, rfl, ?_⟩
    cases t
    · exact hb
    · exact ha
  · simp at h

theorem nil_rep {w : World} {B : Nat → Prop} {g : Nat → Gh} {x r : SV} {v : Value} (hx : RepV w B g x v) (h : nilS x = some r) : (∃ a, v = .pointer (some a)) ∧ RepV w B g r v := by
  unfold nilS at h
  split at h
  · obtain rfl := Option.some.inj h
    cases hx with | ptr hp => exact ⟨⟨_, rfl⟩, .ptr hp⟩
  · obtain rfl := Option.some.inj h
    cases hx with | ap hp => exact ⟨⟨_, rfl⟩, .ap hp⟩
  · obtain rfl := Option.some.inj h
    cases hx with | el h1 h2 h3 => exact ⟨⟨_, rfl⟩, .el h1 h2 h3⟩
  · simp at h

theorem extract_rep {w : World} {B : Nat → Prop} {g : Nat → Gh} {x r : SV} {v : Value} {i : Nat} (hx : RepV w B g x v) (h : extractS x i = some r) :
    ∃ u, (Instr.extract v i).run P w = .ok u w ∧ RepV w B g r u := by
  unfold extractS at h
  split at h
  · cases hx with
    | tup h1 h2 =>
      obtain ⟨u, hu, hr⟩ := RepL.get ⟨h1, h2⟩ h
      exact ⟨u, by simp [Instr.extract, hu], hr⟩
  · simp at h

theorem len_rep (hT : TabOk P T) {fr : Fr} {os : List SO} {g : Nat → Gh} {w : World} (hm : Mem fr os g w) {t ty : Nat} {x : SV} {xv : Value} {n : Nat} (hx : RepV w (Bk fr os g w) g x xv)
    (h : lenS T t os x = some n) : (Builtin.len_ #[t] ty #[xv]).run P w = .ok (.int .i64 (n : Int)) w := by
  unfold lenS at h
  split at h
  · rename_i hu
    split at h
    · rename_i s
      obtain rfl := Option.some.inj h
      obtain rfl := v_rep hx
      simp [Builtin.len_, run_underlying (hT.str t hu), goInt]
    · simp at h
  · rename_i e hu
    have fin : ∀ a c (m : Nat), xv = .slice a m c → (Builtin.len_ #[t] ty #[xv]).run P w = .ok (.int .i64 (m : Int)) w := by
      intro a c m e
      subst e
      simp [Builtin.len_, run_underlying (hT.slice t _ hu), goInt]
    split at h
    · rename_i j lo hi
      split at h
      · rename_i p hp
        obtain rfl := Option.some.inj h
        cases hx with
        | vw0 => exact fin _ _ _ (by rw [Nat.sub_self])
        | vw _ _ _ _ => exact fin _ _ _ rfl
      · simp at h
    · split at h
      · rename_i p hp
        obtain rfl := Option.some.inj h
        obtain ⟨sz, l⟩ := p
        obtain ⟨a, c, e, _⟩ := elems_rep hm hx hp
        exact fin a c _ e
      · simp at h
  · simp at h

theorem min_rep {w : World} {B : Nat → Prop} {g : Nat → Gh} {x y r : SV} {xv yv : Value} {ts : Array TypeId} {ty : Nat} (hx : RepV w B g x xv) (hy : RepV w B g y yv) (h : minS x y = some r) :
    ∃ v, (Builtin.min_ ts ty #[xv, yv]).run P w = .ok v w ∧ RepV w B g r v := by
  unfold minS at h
  split at h
  · obtain rfl := Option.some.inj h
    obtain rfl := v_rep hx
    obtain rfl := v_rep hy
    exact ⟨_, run_min_int2 w _ _ _ _ _ _, .v rfl⟩
  · simp at h

theorem max_rep {w : World} {B : Nat → Prop} {g : Nat → Gh} {x y r : SV} {xv yv : Value} {ts : Array TypeId} {ty : Nat} (hx : RepV w B g x xv) (hy : RepV w B g y yv) (h : maxS x y = some r) :
    ∃ v, (Builtin.max_ ts ty #[xv, yv]).run P w = .ok v w ∧ RepV w B g r v := by
  unfold maxS at h
  split at h
  · obtain rfl := Option.some.inj h
    obtain rfl := v_rep hx
    obtain rfl := v_rep hy
    refine ⟨_, run_max_int2 w _ _ _ _ _ _, ?_⟩
    exact .v rfl
  · simp at h

theorem builtin_rep (hT : TabOk P T) {c : Cx} (hc : c.T = T) {fr : Fr} {os os1 : List SO} {g : Nat → Gh} {w : World} (hm : Mem fr os g w) {b : Builtin} {ts : Array TypeId} {ty : Nat} {cs : Array Bool} {xs : List SV} {vs : List Value} {y : SV}
    (hx : RepL w (Bk fr os g w) g xs vs) (h : builtinS c os b ts.toList xs = some (y, os1)) (hts : ts.size = xs.length) :
    ∃ v w', (builtin b ts ty cs vs.toArray).run P w = .ok (.value v) w' ∧ Res fr os g w os1 y v w' := by
  subst hc
  unfold builtinS at h
  split at h
  · obtain ⟨xv, vs', rfl, h1, h2⟩ := hx.uncons
    obtain rfl : vs' = [] := by have := h2.1; cases vs' <;> simp at this ⊢
    obtain ⟨t, rfl⟩ : ∃ t, ts = #[t] := by
      obtain ⟨l⟩ := ts
      match l, hts with | [t], _ => exact ⟨t, rfl⟩
    unfold lenO at h
    split at h
    · rename_i n hn
      obtain ⟨rfl, rfl⟩ := Prod.mk.inj (Option.some.inj h)
      have hl : (Builtin.len_ #[t] ty #[xv]).run P w = .ok (.int .i64 (n : Int)) w := len_rep hT hm h1 hn
      exact ⟨_, w, by simp [builtin, hl], Res.same hm (.v rfl)⟩
    · simp at h
  · obtain ⟨sv, vs', rfl, h1, h2⟩ := hx.uncons
    obtain ⟨xv, vs', rfl, h3, h4⟩ := h2.uncons
    obtain rfl : vs' = [] := by have := h4.1; cases vs' <;> simp at this ⊢
    obtain ⟨t, t', rfl⟩ : ∃ t t', ts = #[t, t'] := by
      obtain ⟨l⟩ := ts
      match l, hts with | [t, t'], _ => exact ⟨t, t', rfl⟩
    obtain ⟨v, w', hr, hres⟩ := append_rep (ty := ty) hT hm h1 h3 h
    have hl : (Builtin.append_ #[t, t'] ty #[sv, xv]).run P w = .ok v w' := hr
    exact ⟨v, w', by simp [builtin, hl], hres⟩
  · obtain ⟨sv, vs', rfl, h1, h2⟩ := hx.uncons
    obtain ⟨xv, vs', rfl, h3, h4⟩ := h2.uncons
    obtain rfl : vs' = [] := by have := h4.1; cases vs' <;> simp at this ⊢
    obtain ⟨t, t', rfl⟩ : ∃ t t', ts = #[t, t'] := by
      obtain ⟨l⟩ := ts
      match l, hts with | [t, t'], _ => exact ⟨t, t', rfl⟩
    obtain ⟨v, w', hr, hres⟩ := copy_rep (t' := t') (ty := ty) hT hm h1 h3 h
    have hl : (Builtin.copy_ #[t, t'] ty #[sv, xv]).run P w = .ok v w' := hr
    exact ⟨v, w', by simp [builtin, hl], hres⟩
  · obtain ⟨sv, vs', rfl, h1, h2⟩ := hx.uncons
    obtain ⟨xv, vs', rfl, h3, h4⟩ := h2.uncons
    obtain rfl : vs' = [] := by have := h4.1; cases vs' <;> simp at this ⊢
    obtain ⟨h5, rfl⟩ := ret1_eq h
    obtain ⟨v, hr, hrep⟩ := min_rep (P := P) (ts := ts) (ty := ty) h1 h3 h5
    exact ⟨v, w, by simp [builtin, hr], Res.same hm hrep⟩
  · obtain ⟨sv, vs', rfl, h1, h2⟩ := hx.uncons
    obtain ⟨xv, vs', rfl, h3, h4⟩ := h2.uncons
    obtain rfl : vs' = [] := by have := h4.1; cases vs' <;> simp at this ⊢
    obtain ⟨h5, rfl⟩ := ret1_eq h
    obtain ⟨v, hr, hrep⟩ := max_rep (P := P) (ts := ts) (ty := ty) h1 h3 h5
    exact ⟨v, w, by simp [builtin, hr], Res.same hm hrep⟩
  · simp at h

theorem map_rep {w : World} {B : Nat → Prop} {g : Nat → Gh} {env : Env} {a : Act} (hs : Slots w B g env a.tmps) (l : List Operand) : RepL w B g (l.map (ev env)) (l.map a.eval) :=
  ⟨by simp, fun i x v h1 h2 => by
    rw [List.getElem?_map] at h1 h2
    obtain ⟨b, hb, rfl⟩ := Option.map_eq_some_iff.1 h1
    rw [hb] at h2
    obtain rfl := Option.some.inj h2
    exact ev_rep hs b⟩

/-- What is asked of a call of a function (proved where calls are). -/
def CallOK (P : Program) (c : Cx) : Prop :=
  ∀ (fr : Fr) (os os1 : List SO) (g : Nat → Gh) (w : World) (env : Env) (a : Act) (o : Oper) (f : Operand) (args : Array Operand) (ts : Array TypeId) (y : SV), Mem fr os g w → Slots w (Bk fr os g w) g env a.tmps →
    o.op = .call { callee := .value f, args := args, argTypes := ts } → ts.size = args.size → calleeS c os (ev env f) ((args.toList.zip ts.toList).map (argO c.T env)) = some (y, os1) → OpOK P fr os g w os1 y o a

theorem op_rep {c : Cx} (hT : TabOk P c.T) (hK : CallOK P c) {fr : Fr} {os os1 : List SO} {g : Nat → Gh} {w : World} (hm : Mem fr os g w) {env : Env} {a : Act} (hs : Slots w (Bk fr os g w) g env a.tmps) {o : Oper} {y : SV}
    (h : opS c env os o = some (y, os1)) : OpOK P fr os g w os1 y o a := by
  unfold opS at h
  split at h
  · rename_i x ho
    exact value_ok (by simp [execOp, ho]) (evN_rep hm hs h)
  · rename_i x ho
    exact value_ok (by simp [execOp, ho]) (evN_rep hm hs h)
  · rename_i b x z ho
    obtain ⟨h1, rfl⟩ := ret1_eq h
    obtain ⟨t, e, hr⟩ := pick_rep (ev_rep hs b) (ev_rep hs x) (ev_rep hs z) h1
    refine value_ok (v := if t then a.eval x else a.eval z) ?_ (Res.same hm hr)
    simp [execOp, ho, e, asBool]
  · rename_i t ho
    obtain ⟨v, w', hr, hres⟩ := alloc_rep hT hm h
    exact value_ok (by simp [execOp, ho, hr]) hres
  · rename_i t x ho
    obtain ⟨v, w', hr, hres⟩ := box_rep hT hm hs h
    exact value_ok (by simp [execOp, ho, hr]) hres
  · rename_i t ps ho
    obtain ⟨v, hr, hres⟩ := build_rep hT hm hs h
    refine value_ok (v := v) ?_ hres
    simp only [execOp, ho, Sem.run_bind]
    rw [hr]; rfl
  · rename_i t n ps ho
    obtain ⟨v, w', hr, hres⟩ := buildSlice_rep hT hm hs h
    refine value_ok (v := v) ?_ hres
    simp only [execOp, ho, Sem.run_bind]
    rw [hr]; rfl
  · rename_i t x ho
    obtain ⟨h1, rfl⟩ := ret1_eq h
    obtain ⟨v, hr, hrep⟩ := load_rep hT hm (ev_rep hs x) h1
    exact value_ok (by simp [execOp, ho, hr]) (Res.same hm hrep)
  · rename_i t p x ho
    unfold storeO at h
    split at h
    · rename_i z os2 hz
      split at h
      · rename_i os3 h3
        obtain ⟨rfl, rfl⟩ := Prod.mk.inj (Option.some.inj h)
        obtain ⟨g1, m1, gr1, r1⟩ := evN_rep hm hs hz
        obtain ⟨w', hr, m2, gr2⟩ := store_rep hT m1 ((ev_rep hs p).grow gr1) r1 h3
        exact skip_ok (by simp [execOp, ho, hr]) ⟨g1, m2, gr1.trans gr2, .undef⟩
      · simp at h
    · simp at h
  · rename_i x ho
    obtain ⟨h1, rfl⟩ := ret1_eq h
    obtain ⟨⟨p, e⟩, hrep⟩ := nil_rep (ev_rep hs x) h1
    exact value_ok (v := a.eval x) (by simp [execOp, ho, e]) (Res.same hm hrep)
  · rename_i op t x z zt ho
    obtain ⟨h1, rfl⟩ := ret1_eq h
    obtain ⟨v, hr, hrep⟩ := bin_rep (P := P) (xo := x) (yo := z) hT (ev_rep hs x) (ev_rep hs z) h1
    refine value_ok (v := v) ?_ (Res.same hm hrep)
    simp only [execOp, ho, Sem.run_bind]
    simp only [Sem.run_bind] at hr
    rw [hr]; rfl
  · rename_i op t x ho
    obtain ⟨h1, rfl⟩ := ret1_eq h
    obtain ⟨v, hr, hrep⟩ := un_rep (P := P) (ev_rep hs x) h1
    exact value_ok (by simp [execOp, ho, hr]) (Res.same hm hrep)
  · rename_i s d x ho
    obtain ⟨v, w', hr, hres⟩ := conv_rep hT hm (ev_rep hs x) h
    exact value_ok (by simp [execOp, ho, hr]) hres
  · rename_i t n k ho
    obtain ⟨v, w', hr, hres⟩ := make_rep hT hm (ev_rep hs n) (ev_rep hs k) h
    exact value_ok (by simp [execOp, ho, hr]) hres
  · rename_i t x lo hi ho
    obtain ⟨h1, rfl⟩ := ret1_eq h
    obtain ⟨v, hr, hrep⟩ := slice_rep (lov := lo.map a.eval) (hiv := hi.map a.eval) hT hm (ev_rep hs x) (fun e => by cases hi <;> simp at e ⊢) (fun z e => by
      cases hi with
      | none => simp at e
      | some q => simp at e; subst e; exact ⟨_, rfl, ev_rep hs q⟩) (fun e => by cases lo <;> simp at e ⊢) (fun z e => by
      cases lo with
      | none => simp at e
      | some q => simp at e; subst e; exact ⟨_, rfl, ev_rep hs q⟩) h1
    exact value_ok (by simp [execOp, ho, hr]) (Res.same hm hrep)
  · rename_i t x hi m ho
    obtain ⟨h1, rfl⟩ := ret1_eq h
    obtain ⟨v, hr, hrep⟩ := slice3_rep hT (ev_rep hs x) (ev_rep hs hi) (ev_rep hs m) h1
    exact value_ok (by simp [execOp, ho, hr]) (Res.same hm hrep)
  · rename_i t x f ho
    obtain ⟨h1, rfl⟩ := ret1_eq h
    obtain ⟨v, hr, hrep⟩ := fieldAddr_rep hT (ev_rep hs x) h1
    exact value_ok (by simp [execOp, ho, hr]) (Res.same hm hrep)
  · rename_i t x f ho
    obtain ⟨h1, rfl⟩ := ret1_eq h
    obtain ⟨v, hr, hrep⟩ := field_rep hT (ev_rep hs x) h1
    exact value_ok (by simp [execOp, ho, hr]) (Res.same hm hrep)
  · rename_i t x i ho
    obtain ⟨h1, rfl⟩ := ret1_eq h
    obtain ⟨v, hr, hrep⟩ := indexAddr_rep hT hm (ev_rep hs x) (ev_rep hs i) h1
    exact value_ok (by simp [execOp, ho, hr]) (Res.same hm hrep)
  · rename_i t x i ho
    obtain ⟨h1, rfl⟩ := ret1_eq h
    obtain ⟨v, hr, hrep⟩ := index_rep hT (ev_rep hs x) (ev_rep hs i) h1
    exact value_ok (by simp [execOp, ho, hr]) (Res.same hm hrep)
  · rename_i x i ho
    obtain ⟨h1, rfl⟩ := ret1_eq h
    obtain ⟨v, hr, hrep⟩ := extract_rep (P := P) (ev_rep hs x) h1
    exact value_ok (by simp [execOp, ho, hr]) (Res.same hm hrep)
  · rename_i f fs caps ho
    split at h
    · rename_i hf
      obtain ⟨rfl, rfl⟩ := Prod.mk.inj (Option.some.inj h)
      have e : fs = #[] := by cases fs; simp at hf; simp [hf]
      subst e
      refine value_ok (v := .func (.func f) #[] (caps.toList.map a.eval).toArray) ?_ (Res.same hm ?_)
      · simp [execOp, ho, Instr.makeFunc]
        rw [← Array.toList_map, Array.toArray_toList]
      · have := map_rep hs caps.toList
        exact .fn this.1 this.2
    · simp at h
  · rename_i b args ts ho
    split at h
    · rename_i hsz
      obtain ⟨v, w', hr, hres⟩ := builtin_rep (P := P) (ty := o.type) (cs := args.map fun | .const _ => true | _ => false) hT rfl hm (map_rep hs args.toList) h (by simpa using hsz)
      refine value_ok (v := v) ?_ hres
      have e : (args.toList.map a.eval).toArray = args.map a.eval := by rw [← Array.toList_map, Array.toArray_toList]
      rw [e] at hr
      simp only [execOp, ho, resolve, Sem.run_bind, Sem.run_pure, Result.andThen_ok, invoke]
      exact hr
    · simp at h
  · rename_i f args ts ho
    split at h
    · rename_i hsz
      exact hK fr os os1 g w env a o f args ts y hm hs ho hsz h
    · simp at h
  · simp at h

end Go.Proofs.Ytjfegdlgepbjoaa
