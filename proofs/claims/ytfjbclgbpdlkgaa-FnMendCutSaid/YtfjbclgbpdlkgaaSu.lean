/- The evaluator S and what it says of functions: Sm, Sn, So, Sp, Sq, Sr, Ss, Su. -/
import Derived.Test.YtfjbclgbpdlkgaaSl
/- The evaluator S: every operation but a call of a function is sound. -/
namespace Go.Proofs.Ytfjbclgbpdlkgaa
open Go
set_option linter.unusedVariables false
set_option linter.unusedSimpArgs false
variable {P : Program} {T : Tab}
def OpOK (P : Program) (fr : Fr) (os : List SO) (g : Nat → Gh) (w : World) (os' : List SO) (x : SV) (o : Oper) (a : Act) : Prop :=
  ∀ next Q, (∀ v w', Res fr os g w os' x v w' → next (a.put o.dst v) w') → o.wp P a w next Q
theorem zZ {fr : Fr} {os os' : List SO} {g : Nat → Gh} {w w' : World} {x : SV} {v : Value} {o : Oper} {a : Act} (h : (execOp a.eval o).run P w = .ok (.value v) w')
    (hr : Res fr os g w os' x v w') : OpOK P fr os g w os' x o a := by
  intro next Q hn
  unfold Oper.wp
  rw [h]
  exact hn v w' hr
theorem qiQ {fr : Fr} {os os' : List SO} {g : Nat → Gh} {w w' : World} {o : Oper} {a : Act} (h : (execOp a.eval o).run P w = .ok .skip w')
    (hr : Res fr os g w os' .undef undef w') : OpOK P fr os g w os' .undef o a := by
  intro next Q hn
  unfold Oper.wp
  rw [h]
  exact hn undef w' hr
theorem kq {x : Option SV} {os os' : List SO} {y : SV} (h : qc x os = some (y, os')) : x = some y ∧ os' = os := by
  unfold qc at h
  split at h
  · obtain ⟨rfl, rfl⟩ := Prod.mk.inj (Option.some.inj h); exact ⟨rfl, rfl⟩
  · simp at h
theorem qf2 {w : World} {B : Nat → Prop} {g : Nat → Gh} {c a b r : SV} {cv av bv : Value} (hc : RepV w B g c cv) (ha : RepV w B g a av) (hb : RepV w B g b bv) (h : qL c a b = some r) :
    ∃ t, cv = .bool t ∧ RepV w B g r (if t then av else bv) := by
  unfold qL at h
  split at h
  · rename_i t
    obtain rfl := Option.some.inj h
    obtain rfl := wE hc
    refine ⟨t, rfl, ?_⟩
    cases t
    · exact hb
    · exact ha
  · simp at h
theorem qiR {w : World} {B : Nat → Prop} {g : Nat → Gh} {x r : SV} {v : Value} (hx : RepV w B g x v) (h : ZP x = some r) : (∃ a, v = .pointer (some a)) ∧ RepV w B g r v := by
  unfold ZP at h
  split at h
  · obtain rfl := Option.some.inj h
    cases hx with | ptr hp => exact ⟨⟨_, rfl⟩, .ptr hp⟩
  · obtain rfl := Option.some.inj h
    cases hx with | ap hp => exact ⟨⟨_, rfl⟩, .ap hp⟩
  · obtain rfl := Option.some.inj h
    cases hx with | el h1 h2 h3 => exact ⟨⟨_, rfl⟩, .el h1 h2 h3⟩
  · simp at h
theorem Y1 {w : World} {B : Nat → Prop} {g : Nat → Gh} {x r : SV} {v : Value} {i : Nat} (hx : RepV w B g x v) (h : ql x i = some r) :
    ∃ u, (Instr.extract v i).run P w = .ok u w ∧ RepV w B g r u := by
  unfold ql at h
  split at h
  · cases hx with
    | tup h1 h2 =>
      obtain ⟨u, hu, hr⟩ := zU.get ⟨h1, h2⟩ h
      exact ⟨u, by simp [Instr.extract, hu], hr⟩
  · simp at h
theorem qiS (hT : TabOk P T) {fr : Fr} {os : List SO} {g : Nat → Gh} {w : World} (hm : Mem fr os g w) {t ty : Nat} {x : SV} {xv : Value} {n : Nat} (hx : RepV w (Bk fr os g w) g x xv)
    (h : qiK T t os x = some n) : (Builtin.len_ #[t] ty #[xv]).run P w = .ok (.int .i64 (n : Int)) w := by
  unfold qiK at h
  split at h
  · rename_i hu
    split at h
    · rename_i s
      obtain rfl := Option.some.inj h
      obtain rfl := wE hx
      simp [Builtin.len_, run_underlying (hT.str t hu), goInt]
    · simp at h
  · rename_i e hu
    have fin : ∀ a c (m : Nat), xv = .slice a m c → (Builtin.len_ #[t] ty #[xv]).run P w = .ok (.int .i64 (m : Int)) w := by
      intro a c m e
      subst e
      simp [Builtin.len_, run_underlying (hT.slice t _ hu), goInt]
    split at h
    · rename_i j lo hi
      split at h
      · rename_i p hp
        obtain rfl := Option.some.inj h
        cases hx with
        | vw0 => exact fin _ _ _ (by rw [Nat.sub_self])
        | vw _ _ _ _ => exact fin _ _ _ rfl
      · simp at h
    · split at h
      · rename_i p hp
        obtain rfl := Option.some.inj h
        obtain ⟨sz, l⟩ := p
        obtain ⟨a, c, e, _⟩ := yC hm hx hp
        exact fin a c _ e
      · simp at h
  · simp at h
theorem qiT {w : World} {B : Nat → Prop} {g : Nat → Gh} {x y r : SV} {xv yv : Value} {ts : Array TypeId} {ty : Nat} (hx : RepV w B g x xv) (hy : RepV w B g y yv) (h : minS x y = some r) :
    ∃ v, (Builtin.min_ ts ty #[xv, yv]).run P w = .ok v w ∧ RepV w B g r v := by
  unfold minS at h
  split at h
  · obtain rfl := Option.some.inj h
    obtain rfl := wE hx
    obtain rfl := wE hy
    exact ⟨_, run_min_int2 w _ _ _ _ _ _, .v rfl⟩
  · simp at h
theorem qiU {w : World} {B : Nat → Prop} {g : Nat → Gh} {x y r : SV} {xv yv : Value} {ts : Array TypeId} {ty : Nat} (hx : RepV w B g x xv) (hy : RepV w B g y yv) (h : maxS x y = some r) :
    ∃ v, (Builtin.max_ ts ty #[xv, yv]).run P w = .ok v w ∧ RepV w B g r v := by
  unfold maxS at h
  split at h
  · obtain rfl := Option.some.inj h
    obtain rfl := wE hx
    obtain rfl := wE hy
    refine ⟨_, run_max_int2 w _ _ _ _ _ _, ?_⟩
    exact .v rfl
  · simp at h
theorem Y2 (hT : TabOk P T) {c : Cx} (hc : c.T = T) {fr : Fr} {os os1 : List SO} {g : Nat → Gh} {w : World} (hm : Mem fr os g w) {b : Builtin} {ts : Array TypeId} {ty : Nat} {cs : Array Bool} {xs : List SV} {vs : List Value} {y : SV}
    (hx : zU w (Bk fr os g w) g xs vs) (h : xx c os b ts.toList xs = some (y, os1)) (hts : ts.size = xs.length) :
    ∃ v w', (builtin b ts ty cs vs.toArray).run P w = .ok (.value v) w' ∧ Res fr os g w os1 y v w' := by
  subst hc
  unfold xx at h
  split at h
  · obtain ⟨xv, vs', rfl, h1, h2⟩ := hx.uncons
    obtain rfl : vs' = [] := by have := h2.1; cases vs' <;> simp at this ⊢
    obtain ⟨t, rfl⟩ : ∃ t, ts = #[t] := by
      obtain ⟨l⟩ := ts
      match l, hts with | [t], _ => exact ⟨t, rfl⟩
    unfold ze at h
    split at h
    · rename_i n hn
      obtain ⟨rfl, rfl⟩ := Prod.mk.inj (Option.some.inj h)
      have hl : (Builtin.len_ #[t] ty #[xv]).run P w = .ok (.int .i64 (n : Int)) w := qiS hT hm h1 hn
      exact ⟨_, w, by simp [builtin, hl], Res.same hm (.v rfl)⟩
    · simp at h
  · obtain ⟨sv, vs', rfl, h1, h2⟩ := hx.uncons
    obtain ⟨xv, vs', rfl, h3, h4⟩ := h2.uncons
    obtain rfl : vs' = [] := by have := h4.1; cases vs' <;> simp at this ⊢
    obtain ⟨t, t', rfl⟩ : ∃ t t', ts = #[t, t'] := by
      obtain ⟨l⟩ := ts
      match l, hts with | [t, t'], _ => exact ⟨t, t', rfl⟩
    obtain ⟨v, w', hr, hres⟩ := qaG (ty := ty) hT hm h1 h3 h
    have hl : (Builtin.append_ #[t, t'] ty #[sv, xv]).run P w = .ok v w' := hr
    exact ⟨v, w', by simp [builtin, hl], hres⟩
  · obtain ⟨sv, vs', rfl, h1, h2⟩ := hx.uncons
    obtain ⟨xv, vs', rfl, h3, h4⟩ := h2.uncons
    obtain rfl : vs' = [] := by have := h4.1; cases vs' <;> simp at this ⊢
    obtain ⟨t, t', rfl⟩ : ∃ t t', ts = #[t, t'] := by
      obtain ⟨l⟩ := ts
      match l, hts with | [t, t'], _ => exact ⟨t, t', rfl⟩
    obtain ⟨v, w', hr, hres⟩ := qf0 (t' := t') (ty := ty) hT hm h1 h3 h
    have hl : (Builtin.copy_ #[t, t'] ty #[sv, xv]).run P w = .ok v w' := hr
    exact ⟨v, w', by simp [builtin, hl], hres⟩
  · obtain ⟨sv, vs', rfl, h1, h2⟩ := hx.uncons
    obtain ⟨xv, vs', rfl, h3, h4⟩ := h2.uncons
    obtain rfl : vs' = [] := by have := h4.1; cases vs' <;> simp at this ⊢
    obtain ⟨h5, rfl⟩ := kq h
    obtain ⟨v, hr, hrep⟩ := qiT (P := P) (ts := ts) (ty := ty) h1 h3 h5
    exact ⟨v, w, by simp [builtin, hr], Res.same hm hrep⟩
  · obtain ⟨sv, vs', rfl, h1, h2⟩ := hx.uncons
    obtain ⟨xv, vs', rfl, h3, h4⟩ := h2.uncons
    obtain rfl : vs' = [] := by have := h4.1; cases vs' <;> simp at this ⊢
    obtain ⟨h5, rfl⟩ := kq h
    obtain ⟨v, hr, hrep⟩ := qiU (P := P) (ts := ts) (ty := ty) h1 h3 h5
    exact ⟨v, w, by simp [builtin, hr], Res.same hm hrep⟩
  · simp at h
theorem qcN {w : World} {B : Nat → Prop} {g : Nat → Gh} {env : Env} {a : Act} (hs : ws w B g env a.tmps) (l : List Operand) : zU w B g (l.map (ev env)) (l.map a.eval) :=
  ⟨by simp, fun i x v h1 h2 => by
    rw [List.getElem?_map] at h1 h2
    obtain ⟨b, hb, rfl⟩ := Option.map_eq_some_iff.1 h1
    rw [hb] at h2
    obtain rfl := Option.some.inj h2
    exact kf hs b⟩
def qhU (P : Program) (c : Cx) : Prop :=
  ∀ (fr : Fr) (os os1 : List SO) (g : Nat → Gh) (w : World) (env : Env) (a : Act) (o : Oper) (f : Operand) (args : Array Operand) (ts : Array TypeId) (y : SV), Mem fr os g w → ws w (Bk fr os g w) g env a.tmps →
    o.op = .call { callee := .value f, args := args, argTypes := ts } → ts.size = args.size → wJ c os (ev env f) ((args.toList.zip ts.toList).map (YV c.T env)) = some (y, os1) → OpOK P fr os g w os1 y o a
theorem op_rep {c : Cx} (hT : TabOk P c.T) (hK : qhU P c) {fr : Fr} {os os1 : List SO} {g : Nat → Gh} {w : World} (hm : Mem fr os g w) {env : Env} {a : Act} (hs : ws w (Bk fr os g w) g env a.tmps) {o : Oper} {y : SV}
    (h : opS c env os o = some (y, os1)) : OpOK P fr os g w os1 y o a := by
  unfold opS at h
  split at h
  · rename_i x ho
    exact zZ (by simp [execOp, ho]) (Q4 hm hs h)
  · rename_i x ho
    exact zZ (by simp [execOp, ho]) (Q4 hm hs h)
  · rename_i b x z ho
    obtain ⟨h1, rfl⟩ := kq h
    obtain ⟨t, e, hr⟩ := qf2 (kf hs b) (kf hs x) (kf hs z) h1
    refine zZ (v := if t then a.eval x else a.eval z) ?_ (Res.same hm hr)
    simp [execOp, ho, e, asBool]
  · rename_i t ho
    obtain ⟨v, w', hr, hres⟩ := qcD hT hm h
    exact zZ (by simp [execOp, ho, hr]) hres
  · rename_i t x ho
    obtain ⟨v, w', hr, hres⟩ := qiO hT hm hs h
    exact zZ (by simp [execOp, ho, hr]) hres
  · rename_i t ps ho
    obtain ⟨v, hr, hres⟩ := qcF hT hm hs h
    refine zZ (v := v) ?_ hres
    simp only [execOp, ho, Sem.run_bind]
    rw [hr]; rfl
  · rename_i t n ps ho
    obtain ⟨v, w', hr, hres⟩ := ZQ hT hm hs h
    refine zZ (v := v) ?_ hres
    simp only [execOp, ho, Sem.run_bind]
    rw [hr]; rfl
  · rename_i t x ho
    obtain ⟨h1, rfl⟩ := kq h
    obtain ⟨v, hr, hrep⟩ := Jv hT hm (kf hs x) h1
    exact zZ (by simp [execOp, ho, hr]) (Res.same hm hrep)
  · rename_i t p x ho
    unfold qp at h
    split at h
    · rename_i z os2 hz
      split at h
      · rename_i z' os2' hd
        split at h
        · rename_i os3 h3
          obtain ⟨rfl, rfl⟩ := Prod.mk.inj (Option.some.inj h)
          obtain ⟨g1, m1, gr1, r1⟩ := Q4 hm hs hz
          obtain ⟨m1', gr1', r1'⟩ := qfY m1 r1 hd
          obtain ⟨w', hr, m2, gr2⟩ := qcK hT m1' ((kf hs p).grow (gr1.trans gr1')) r1' h3
          exact qiQ (by simp [execOp, ho, hr]) ⟨g1, m2, (gr1.trans gr1').trans gr2, .undef⟩
        · simp at h
      · simp at h
    · simp at h
  · rename_i x ho
    obtain ⟨h1, rfl⟩ := kq h
    obtain ⟨⟨p, e⟩, hrep⟩ := qiR (kf hs x) h1
    exact zZ (v := a.eval x) (by simp [execOp, ho, e]) (Res.same hm hrep)
  · rename_i op t x z zt ho
    obtain ⟨h1, rfl⟩ := kq h
    obtain ⟨v, hr, hrep⟩ := qiN (P := P) (xo := x) (yo := z) hT (kf hs x) (kf hs z) h1
    refine zZ (v := v) ?_ (Res.same hm hrep)
    simp only [execOp, ho, Sem.run_bind]
    simp only [Sem.run_bind] at hr
    rw [hr]; rfl
  · rename_i op t x ho
    obtain ⟨h1, rfl⟩ := kq h
    obtain ⟨v, hr, hrep⟩ := un_rep (P := P) (kf hs x) h1
    exact zZ (by simp [execOp, ho, hr]) (Res.same hm hrep)
  · rename_i s d x ho
    obtain ⟨v, w', hr, hres⟩ := qf1 hT hm (kf hs x) h
    exact zZ (by simp [execOp, ho, hr]) hres
  · rename_i t n k ho
    obtain ⟨v, w', hr, hres⟩ := qfZ hT hm (kf hs n) (kf hs k) h
    exact zZ (by simp [execOp, ho, hr]) hres
  · rename_i t x lo hi ho
    obtain ⟨h1, rfl⟩ := kq h
    obtain ⟨v, hr, hrep⟩ := qcB (lov := lo.map a.eval) (hiv := hi.map a.eval) hT hm (kf hs x) (fun e => by cases hi <;> simp at e ⊢) (fun z e => by
      cases hi with
      | none => simp at e
      | some q => simp at e; subst e; exact ⟨_, rfl, kf hs q⟩) (fun e => by cases lo <;> simp at e ⊢) (fun z e => by
      cases lo with
      | none => simp at e
      | some q => simp at e; subst e; exact ⟨_, rfl, kf hs q⟩) h1
    exact zZ (by simp [execOp, ho, hr]) (Res.same hm hrep)
  · rename_i t x hi m ho
    obtain ⟨h1, rfl⟩ := kq h
    obtain ⟨v, hr, hrep⟩ := qaD hT (kf hs x) (kf hs hi) (kf hs m) h1
    exact zZ (by simp [execOp, ho, hr]) (Res.same hm hrep)
  · rename_i t x f ho
    obtain ⟨h1, rfl⟩ := kq h
    obtain ⟨v, hr, hrep⟩ := KR hT (kf hs x) h1
    exact zZ (by simp [execOp, ho, hr]) (Res.same hm hrep)
  · rename_i t x f ho
    obtain ⟨h1, rfl⟩ := kq h
    obtain ⟨v, hr, hrep⟩ := qcx hT (kf hs x) h1
    exact zZ (by simp [execOp, ho, hr]) (Res.same hm hrep)
  · rename_i t x i ho
    obtain ⟨h1, rfl⟩ := kq h
    obtain ⟨v, hr, hrep⟩ := KS hT hm (kf hs x) (kf hs i) h1
    exact zZ (by simp [execOp, ho, hr]) (Res.same hm hrep)
  · rename_i t x i ho
    obtain ⟨h1, rfl⟩ := kq h
    obtain ⟨v, hr, hrep⟩ := qcz hT (kf hs x) (kf hs i) h1
    exact zZ (by simp [execOp, ho, hr]) (Res.same hm hrep)
  · rename_i x i ho
    obtain ⟨h1, rfl⟩ := kq h
    obtain ⟨v, hr, hrep⟩ := Y1 (P := P) (kf hs x) h1
    exact zZ (by simp [execOp, ho, hr]) (Res.same hm hrep)
  · rename_i f fs caps ho
    split at h
    · rename_i hf
      obtain ⟨rfl, rfl⟩ := Prod.mk.inj (Option.some.inj h)
      have e : fs = #[] := by cases fs; simp at hf; simp [hf]
      subst e
      refine zZ (v := .func (.func f) #[] (caps.toList.map a.eval).toArray) ?_ (Res.same hm ?_)
      · simp [execOp, ho, Instr.makeFunc]
        rw [← Array.toList_map, Array.toArray_toList]
      · have := qcN hs caps.toList
        exact .fn this.1 this.2
    · simp at h
  · rename_i b args ts ho
    split at h
    · rename_i hsz
      obtain ⟨v, w', hr, hres⟩ := Y2 (P := P) (ty := o.type) (cs := args.map fun | .const _ => true | _ => false) hT rfl hm (qcN hs args.toList) h (by simpa using hsz)
      refine zZ (v := v) ?_ hres
      have e : (args.toList.map a.eval).toArray = args.map a.eval := by rw [← Array.toList_map, Array.toArray_toList]
      rw [e] at hr
      simp only [execOp, ho, resolve, Sem.run_bind, Sem.run_pure, Result.andThen_ok, invoke]
      exact hr
    · simp at h
  · rename_i f args ts ho
    split at h
    · rename_i hsz
      exact hK fr os os1 g w env a o f args ts y hm hs ho hsz h
    · simp at h
  · simp at h
end Go.Proofs.Ytfjbclgbpdlkgaa

/- The evaluator S: code is sound, where its operations are. -/
namespace Go.Proofs.Ytfjbclgbpdlkgaa
open Go
set_option linter.unusedVariables false
set_option linter.unusedSimpArgs false
variable {P : Program} {T : Tab}
def Inv (fr : Fr) (g0 : Nat → Gh) (nl nt : Nat) (env : Env) (os : List SO) (a : Act) (w : World) : Prop :=
  ∃ g, Mem fr os g w ∧ ws w (Bk fr os g w) g env a.tmps ∧ nt ≤ a.tmps.size ∧ a.defers = [] ∧ nl ≤ os.length ∧ ∀ j, j < nl → g0 j ≠ .no → g j = g0 j
def ZS (fr : Fr) (g0 : Nat → Gh) (nl nt : Nat) (k : Kt) (out : SV × List SO) (e : Exit) (a : Act) (w : World) : Prop :=
  ∃ env os, Inv fr g0 nl nt env os a w ∧
    match e with
    | .normal => k.n env os = some out
    | .exit id => k.x id env os = some out
    | .ret => k.r env os = some out
    | _ => False
theorem qcO (env : Env) (t : Nat) : ∀ (al : List Nat), yN t (zB al env) = yN t env ∨ yN t (zB al env) = .dead := by
  intro al
  induction al with
  | nil => exact .inr rfl
  | cons x xs ih =>
    simp only [zB, yN]
    split
    · rename_i h
      rw [Nat.eq_of_beq_eq_true h]
      exact .inl rfl
    · exact ih
theorem qaI {w : World} {B : Nat → Prop} {g : Nat → Gh} {env : Env} {tmps : Array Value} (h : ws w B g env tmps) (al : List Nat) : ws w B g (zB al env) tmps := by
  intro t
  rcases qcO env t al with e | e
  · rw [e]; exact h t
  · rw [e]; exact .dead
theorem KZ {fr : Fr} {g0 : Nat → Gh} {nl nt : Nat} {env : Env} {os : List SO} {a : Act} {w : World} (h : Inv fr g0 nl nt env os a w) (al : Option (List Nat)) : Inv fr g0 nl nt (killO al env) os a w := by
  obtain ⟨g, h1, h2, h3⟩ := h
  cases al with
  | none => exact ⟨g, h1, h2, h3⟩
  | some l => exact ⟨g, h1, qaI h2 l, h3⟩
theorem qcP {w : World} {B : Nat → Prop} {g : Nat → Gh} {env : Env} {a : Act} {d : Option Nat} {x : SV} {v : Value} (h : ws w B g env a.tmps) (hx : RepV w B g x v) (hd : jR a.tmps.size d = true) :
    ws w B g (put env d x) (a.put d v).tmps := by
  cases d with
  | none => exact h
  | some t =>
    intro s
    have hlt : t < a.tmps.size := by
      unfold jR at hd
      simp only [Nat.blt_eq] at hd
      exact hd
    simp only [put, yN, Act.put]
    split
    · rename_i e
      obtain rfl := Nat.eq_of_beq_eq_true e
      have : (a.tmps.setIfInBounds s v).getD s undef = v := by simp [Array.getD, hlt]
      rw [this]; exact hx
    · rename_i e
      have hne : t ≠ s := fun e' => by subst e'; rw [Nat.beq_refl] at e; cases e
      have : (a.tmps.setIfInBounds t v).getD s undef = a.tmps.getD s undef := by
        simp [Array.getElem?_setIfInBounds_ne hne]
      rw [this]; exact h s
theorem Jz (a : Act) (d : Option Nat) (v : Value) : (a.put d v).tmps.size = a.tmps.size := by
  cases d <;> simp [Act.put]
theorem Z3 (a : Act) (d : Option Nat) (v : Value) : (a.put d v).defers = a.defers := by
  cases d <;> rfl
theorem JA {n m : Nat} {d : Option Nat} (h : jR n d = true) (hn : n ≤ m) : jR m d = true := by
  cases d with
  | none => rfl
  | some t =>
    simp only [jR, Nat.blt_eq] at h ⊢
    omega
theorem Y3 {fr : Fr} {g0 g : Nat → Gh} {nl nt : Nat} {env : Env} {os os' : List SO} {a : Act} {w w' : World} {d : Option Nat} {x : SV} {v : Value} (hm : Mem fr os g w) (hs : ws w (Bk fr os g w) g env a.tmps) (ht : nt ≤ a.tmps.size) (hdf : a.defers = [])
    (hl : nl ≤ os.length) (h0 : ∀ j, j < nl → g0 j ≠ .no → g j = g0 j) (hd : jR nt d = true) (hr : Res fr os g w os' x v w') (hos : os.length ≤ os'.length) :
    Inv fr g0 nl nt (put env d x) os' (a.put d v) w' := by
  obtain ⟨g', m, gr, r⟩ := hr
  refine ⟨g', m, qcP (hs.grow gr) r (JA hd ht), by rw [Jz]; exact ht, by rw [Z3]; exact hdf, by omega, fun j hj hn => ?_⟩
  rw [gr.ext j (by rw [h0 j hj hn]; exact hn), h0 j hj hn]
theorem qf3 {w : World} {B : Nat → Prop} {g : Nat → Gh} {x : SV} {b : Bool} (h : RepV w B g x (.bool b)) (hd : x ≠ .dead) : x = .v (.bool b) := by
  cases h with
  | v h => rfl
  | dead => exact absurd rfl hd
theorem xy {w : World} {B : Nat → Prop} {g : Nat → Gh} {env : Env} {a : Act} {ops : Array Oper} (hs : ws w B g env a.tmps) (j : Nat) (hd : Qo ops.toList env j ≠ .dead) :
    (∀ b, Qo ops.toList env j = .v (.bool b) → yielded ops a.tmps j = some b) ∧ ((∀ b, Qo ops.toList env j ≠ .v (.bool b)) → yielded ops a.tmps j = none) := by
  unfold Qo at hd ⊢
  unfold yielded
  rw [Array.getElem?_toList] at hd ⊢
  cases ho : ops[j]? with
  | none => simp
  | some o =>
    simp only [ho] at hd ⊢
    cases hdst : o.dst with
    | none => simp [hdst]
    | some t =>
      simp only [hdst] at hd
      have hr := hs t
      simp only [hdst, Option.bind_some]
      refine ⟨fun b hb => ?_, fun hb => ?_⟩
      · rw [hb] at hr
        have hv := wE hr
        cases ht : a.tmps[t]? with
        | none => simp [Array.getD_eq_getD_getElem?, ht, undef] at hv
        | some v => simp [Array.getD_eq_getD_getElem?, ht] at hv; simp [ht, hv]
      · cases ht : a.tmps[t]? with
        | none => simp
        | some v =>
          cases v with
          | bool b =>
            have : a.tmps.getD t undef = .bool b := by simp [Array.getD_eq_getD_getElem?, ht]
            rw [this] at hr
            exact absurd (qf3 hr hd) (hb b)
          | _ => rfl
theorem Q9 {ty : Nat} {os os' : List SO} {x : Option SV} {y : SV} (h : evN T ty os x = some (y, os')) : os.length ≤ os'.length := by
  unfold evN at h
  split at h
  · split at h
    · split at h
      · obtain ⟨_, rfl⟩ := Prod.mk.inj (Option.some.inj h); simp
      · simp at h
    · simp at h
  · obtain ⟨_, rfl⟩ := Prod.mk.inj (Option.some.inj h); exact Nat.le_refl _
def WR (P : Program) (c : Cx) : Prop :=
  ∀ (fr : Fr) (os os1 : List SO) (g : Nat → Gh) (w : World) (env : Env) (a : Act) (o : Oper) (y : SV), Mem fr os g w → ws w (Bk fr os g w) g env a.tmps → opS c env os o = some (y, os1) →
    OpOK P fr os g w os1 y o a ∧ os.length ≤ os1.length
theorem WS {c : Cx} {env : Env} {os : List SO} {o : Oper} {x : SV} (h : ZZ env o = some x) : o.guard = none ∧ opS c env os o = some (x, os) := by
  unfold ZZ at h
  split at h
  · simp at h
  · rename_i hg
    refine ⟨hg, ?_⟩
    split at h
    · rename_i y ho; simp only [opS, ho, h]; rfl
    · rename_i y ho; simp only [opS, ho, h]; rfl
    · rename_i f fs caps ho
      simp only [opS, ho]
      split at h
      · rename_i hf; obtain rfl := Option.some.inj h; first | rfl | (simp only [hf]) | (rw [hf])
      · simp at h
    · simp at h
theorem qcQ {c : Cx} (hO : WR P c) {fr : Fr} {g0 : Nat → Gh} {nl nt : Nat} {k : Kt} {out : SV × List SO} {ops : Array Oper} : ∀ (rest : List Oper) (i : Nat) (env : Env) (os : List SO) (a : Act) (w : World),
    ops.toList.drop i = rest → Inv fr g0 nl nt env os a w → Z0 c nt ops.toList rest env os k.n = some out →
    wpOps P ops (ZS fr g0 nl nt k out) (List.range' i rest.length) a w := by
  intro rest
  induction rest with
  | nil =>
    intro i env os a w hd hi h
    exact ⟨env, os, hi, h⟩
  | cons o rest ih =>
    intro i env os a w hd hi h
    have hoi : ops[i]? = some o := by
      have := congrArg List.head? hd
      simpa [List.head?_drop] using this
    have hd' : ops.toList.drop (i + 1) = rest := by
      rw [← List.drop_drop, hd]; rfl
    rw [List.length_cons, List.range'_succ]
    simp only [wpOps, hoi]
    simp only [Z0] at h
    split at h
    · simp at h
    · rename_i hdst
      obtain ⟨g, m, hs, ht, hdf, hl, h0⟩ := hi
      have step : ∀ (x : SV) (os1 : List SO), opS c env os o = some (x, os1) → Z0 c nt ops.toList rest (put env o.dst x) os1 k.n = some out →
          o.wp P a w (wpOps P ops (ZS fr g0 nl nt k out) (List.range' (i + 1) rest.length)) (ZS fr g0 nl nt k out) := by
        intro x os1 hx hk
        obtain ⟨hok, hle⟩ := hO fr os os1 g w env a o x m hs hx
        refine hok _ _ fun v w' hres => ?_
        exact ih (i + 1) _ _ _ _ hd' (Y3 m hs ht hdf hl h0 hdst hres hle) hk
      split at h
      · rename_i x hx
        obtain ⟨hg, hop⟩ := WS (c := c) (os := os) hx
        have hw : Region.wanted o (yielded ops a.tmps) = true := by simp [Region.wanted, hg]
        rw [if_pos hw]
        exact .inl (step x os hop h)
      · rename_i hx
        obtain ⟨r, hr, hk⟩ := Option.bind_eq_some_iff.1 h
        obtain ⟨x, os1⟩ := r
        unfold op1 at hr
        split at hr
        · rename_i hg
          have hw : Region.wanted o (yielded ops a.tmps) = true := by simp [Region.wanted, hg]
          rw [if_pos hw]
          exact .inl (step x os1 hr hk)
        · rename_i j want hg
          unfold gd at hr
          split at hr
          · rename_i b hb
            have hy := (xy (ops := ops) hs j (by rw [hb]; simp)).1 b hb
            split at hr
            · rename_i e
              have hw : Region.wanted o (yielded ops a.tmps) = true := by simp [Region.wanted, hg, hy, e]
              rw [if_pos hw]
              exact .inl (step x os1 hr hk)
            · rename_i e
              obtain ⟨rfl, rfl⟩ := Prod.mk.inj (Option.some.inj hr)
              have hw : ¬ Region.wanted o (yielded ops a.tmps) = true := by simp [Region.wanted, hg, hy, e]
              rw [if_neg hw]
              exact ih (i + 1) _ _ _ _ hd' (Y3 m hs ht hdf hl h0 hdst (Res.same m .undef) (Nat.le_refl _)) hk
          · simp at hr
          · rename_i hnb hnd
            obtain ⟨rfl, rfl⟩ := Prod.mk.inj (Option.some.inj hr)
            have hy := (xy (ops := ops) hs j (fun e => hnd e)).2 (fun b e => hnb b e)
            have hw : ¬ Region.wanted o (yielded ops a.tmps) = true := by simp [Region.wanted, hg, hy]
            rw [if_neg hw]
            exact ih (i + 1) _ _ _ _ hd' (Y3 m hs ht hdf hl h0 hdst (Res.same m .undef) (Nat.le_refl _)) hk
def qhV (P : Program) (c : Cx) : Prop :=
  ∀ (fr : Fr) (g0 : Nat → Gh) (nl nt : Nat) (k : Kt) (out : SV × List SO) (d : Option DT) (ops : Array Oper) (env : Env) (os : List SO) (a : Act) (w : World) (t : Nat),
    Inv fr g0 nl nt env os a w → YX c nt d ops.toList env os k.n = some out →
    wpOps P ops (ZS fr g0 nl nt k out) (Region.schedule (P.follows .mixedOrders) ops t) a w
theorem qcR {fr : Fr} {g0 : Nat → Gh} {nl nt : Nat} {env : Env} {os : List SO} {a : Act} {w : World} (h : Inv fr g0 nl nt env os a w) : Inv fr g0 nl nt env os a { w with drawn := w.drawn + 1 } := by
  obtain ⟨g, m, hs, rest⟩ := h
  have hB : ∀ b, Bk fr os g w b → Bk fr os g { w with drawn := w.drawn + 1 } b := fun b hb => hb
  have hS : ∀ b, Bk fr os g w b → ({ w with drawn := w.drawn + 1 } : World).heap[b]? = w.heap[b]? := fun _ _ => rfl
  refine ⟨g, ?_, fun t => (hs t).mono hB hS g (fun _ _ => rfl), rest⟩
  exact { objs := fun j o hj => (m.objs j o hj).mono hB hS (fun _ _ => rfl) (fun _ _ _ => rfl), fresh := m.fresh, inj := m.inj, own := m.own, mine := m.mine, frame := m.frame, size := m.size, out := m.out }
def GcOK (P : Program) : Prop :=
  ∀ (fr : Fr) (g0 : Nat → Gh) (nl nt : Nat) (env : Env) (os : List SO) (a : Act) (w : World), Inv fr g0 nl nt env os a w →
    ∀ keep, gcK nl env os = some keep → Inv fr g0 nl nt (renE (place keep) env) (gcO keep os) a w
theorem WT {c : Code} {Q : Exit → Act → World → Prop} (I : Nat → Act → World → Prop) (h0 : ∀ a w, ¬ I 0 a w) (round : ∀ n a w, I (n + 1) a w → c.wp P (Exit.then (I n) Q) a w) {n : Nat} {a : Act} {w : World}
    (h : I n a w) : (Code.loop c).wp P Q a w := by
  intro b k cs
  have key : ∀ n a w, I n a w → ∃ e a' w', Q e a' w' ∧ Arrives P (lone (b.at a (.code c :: .inLoop c :: k)) cs w) b k cs e a' w' := by
    intro n
    induction n with
    | zero => intro a w h; exact absurd h (h0 a w)
    | succ n ih =>
      intro a w h
      obtain ⟨e, a₁, w₁, hq, harr⟩ := round n a w h b (.inLoop c :: k) cs
      cases e with
      | normal =>
        obtain ⟨e₂, a₂, w₂, hq₂, harr₂⟩ := ih a₁ w₁ hq
        exact ⟨e₂, a₂, w₂, hq₂, .of_steps (Steps.trans harr (.one step_inLoop)) harr₂⟩
      | exit id => exact ⟨_, a₁, w₁, hq, .pass (x := .inLoop c) rfl (fun _ _ => .inl (by simp)) harr⟩
      | goto l => exact ⟨_, a₁, w₁, hq, .pass (x := .inLoop c) rfl (fun _ _ => .inl (by simp)) harr⟩
      | ret => exact ⟨_, a₁, w₁, hq, .pass (x := .inLoop c) rfl (fun _ _ => .inl (by simp)) harr⟩
      | panic ch => exact ⟨_, a₁, w₁, hq, .pass (x := .inLoop c) rfl (fun _ _ => .inl (by simp)) harr⟩
      | outgrown => exact ⟨_, a₁, w₁, hq, .pass (x := .inLoop c) rfl (fun _ _ => .inl (by simp)) harr⟩
  obtain ⟨e, a', w', hq, harr⟩ := key n a w h
  exact ⟨e, a', w', hq, .of_steps (.one step_loop) harr⟩
theorem Z4 {c : Cx} (hO : WR P c) (hD : qhV P c) (hG : GcOK P) {fr : Fr} {g0 : Nat → Gh} {N nl : Nat} {fi : FnI} {out : SV × List SO} : ∀ (cd : Code) (env : Env) (os : List SO) (k : Kt) (a : Act) (w : World),
    Inv fr g0 nl fi.nt env os a w → qA c N nl fi cd env os k = some out → cd.wp P (ZS fr g0 nl fi.nt k out) a w := by
  intro cd
  induction cd with
  | skip => intro env os k a w hi h; exact wp_skip ⟨env, os, hi, h⟩
  | region id ops draw =>
    intro env os k a w hi h
    cases draw with
    | false =>
      simp only [qA] at h
      refine wp_region ?_
      have := qcQ hO (k := k) ops.toList 0 env os a w rfl hi h
      rw [List.range_eq_range', ← Array.length_toList]
      exact this
    | true =>
      simp only [qA] at h
      refine wp_region_draw fun t => ?_
      exact hD fr g0 nl fi.nt k out (fi.dt _) ops env os a _ t (qcR hi) h
  | seq x y ihx ihy =>
    intro env os k a w hi h
    simp only [qA] at h
    refine wp_seq (wp_mono (ihx env os _ a w hi h) fun e a' w' hq => ?_)
    obtain ⟨env', os', hi', hk⟩ := hq
    cases e with
    | normal => exact ihy _ _ _ _ _ (KZ hi' _) hk
    | exit id => exact ⟨env', os', hi', hk⟩
    | ret => exact ⟨env', os', hi', hk⟩
    | goto l => exact hk.elim
    | panic ch => exact hk.elim
    | outgrown => exact hk.elim
  | cond b x y ihx ihy =>
    intro env os k a w hi h
    simp only [qA] at h
    unfold qE at h
    split at h
    · rename_i t ht
      obtain ⟨g, m, hs, rest⟩ := hi
      have he : a.eval b = .bool t := by have := kf hs b; rw [ht] at this; exact wE this
      refine wp_cond he ?_
      cases t with
      | true => exact ihx env os k a w ⟨g, m, hs, rest⟩ h
      | false => exact ihy env os k a w ⟨g, m, hs, rest⟩ h
    · simp at h
  | block id b ih =>
    intro env os k a w hi h
    simp only [qA] at h
    refine wp_block (wp_mono (ih env os _ a w hi h) fun e a' w' hq => ?_)
    obtain ⟨env', os', hi', hk⟩ := hq
    cases e with
    | normal => exact ⟨env', os', hi', hk⟩
    | exit id' =>
      simp only [qu] at hk
      simp only [Exit.inBlock]
      split
      · rename_i e
        rw [if_pos e] at hk
        exact ⟨env', os', hi', hk⟩
      · rename_i e
        rw [if_neg e] at hk
        exact ⟨env', os', hi', hk⟩
    | ret => exact ⟨env', os', hi', hk⟩
    | goto l => exact hk.elim
    | panic ch => exact hk.elim
    | outgrown => exact hk.elim
  | loop b ih =>
    intro env os k a w hi h
    simp only [qA] at h
    let F : Env → List SO → (Env → List SO → Out) → Out := fun env os nx => qA c N nl fi b env os (qP nx k)
    refine WT (fun n a w => ∃ env os, Inv fr g0 nl fi.nt env os a w ∧ q8 nl (fi.lp (kc b)) F n env os = some out) ?_ ?_ (n := N) ⟨_, _, KZ hi (some (fi.lp (kc b)).alive), h⟩
    · rintro a w ⟨env, os, _, h⟩
      simp [q8] at h
    · rintro n a w ⟨env, os, hi, h⟩
      have fin : ∀ env os, Inv fr g0 nl fi.nt env os a w → F env os (fun env os => q8 nl (fi.lp (kc b)) F n (zB (fi.lp (kc b)).alive env) os) = some out →
          b.wp P (Exit.then (fun a w => ∃ env os, Inv fr g0 nl fi.nt env os a w ∧ q8 nl (fi.lp (kc b)) F n env os = some out) (ZS fr g0 nl fi.nt k out)) a w := by
        intro env os hi h
        refine wp_mono (ih env os _ a w hi h) fun e a' w' hq => ?_
        obtain ⟨env', os', hi', hk⟩ := hq
        cases e with
        | normal => exact ⟨_, _, KZ hi' (some (fi.lp (kc b)).alive), hk⟩
        | exit id => exact ⟨env', os', hi', hk⟩
        | ret => exact ⟨env', os', hi', hk⟩
        | goto l => exact hk.elim
        | panic ch => exact hk.elim
        | outgrown => exact hk.elim
      simp only [q8] at h
      split at h
      · obtain ⟨keep, hkp, h⟩ := Option.bind_eq_some_iff.1 h
        exact fin _ _ (hG fr g0 nl fi.nt env os a w hi keep hkp) h
      · exact fin _ _ hi h
  | exit i => intro env os k a w hi h; exact wp_exit ⟨env, os, hi, h⟩
  | ret => intro env os k a w hi h; exact wp_ret ⟨env, os, hi, h⟩
  | label l => intro env os k a w hi h; simp [qA] at h
  | goto l => intro env os k a w hi h; simp [qA] at h
  | refuse s => intro env os k a w hi h; simp [qA] at h
  | scope b _ => intro env os k a w hi h; simp [qA] at h
  | rangeFunc f ps x y _ _ => intro env os k a w hi h; simp [qA] at h
end Go.Proofs.Ytfjbclgbpdlkgaa

/- The evaluator S: other names for the objects. -/
namespace Go.Proofs.Ytfjbclgbpdlkgaa
open Go
set_option linter.unusedVariables false
set_option linter.unusedSimpArgs false
variable {P : Program} {T : Tab}
theorem QL {w : World} {B B' : Nat → Prop} {g g' : Nat → Gh} {ρ : Nat → Option Nat} (hB : ∀ b, B b → B' b) (hρ : ∀ j i, ρ j = some i → g' i = g j) {x : SV} {v : Value} (h : RepV w B g x v) : RepV w B' g' (qay ρ x) v := by
  cases h with
  | v h => exact .v h
  | undef => exact .undef
  | dead => exact .dead
  | sl0 => exact .sl0
  | sl h1 h2 h3 h4 h5 h6 => exact .sl h1 (fun i x v a b => (h2 i x v a b).mono hB (fun _ _ => rfl) G0 (fun _ h => absurd rfl h)) h3 h4 (hB _ h5) h6
  | ag h1 h2 h3 => exact .dead
  | tup h1 h2 => exact .dead
  | osl0 h => rename_i j; simp only [qay]; split
              · rename_i i hi; exact .osl0 (by rw [hρ j i hi]; exact h)
              · exact .dead
  | osl h => rename_i j _ _ _ _; simp only [qay]; split
             · rename_i i hi; exact .osl (by rw [hρ j i hi]; exact h)
             · exact .dead
  | vw0 => simp only [qay]; split
           · exact .vw0
           · exact .dead
  | vw h a b c => rename_i j _ _ _ _ _ _ _; simp only [qay]; split
                  · rename_i i hi; exact .vw (by rw [hρ j i hi]; exact h) a b c
                  · exact .dead
  | ptr h => rename_i j _ _; simp only [qay]; split
             · rename_i i hi; exact .ptr (by rw [hρ j i hi]; exact h)
             · exact .dead
  | ap h => rename_i j _ _ _ _ _ _; simp only [qay]; split
            · rename_i i hi; exact .ap (by rw [hρ j i hi]; exact h)
            · exact .dead
  | el h1 h2 h3 => exact .el (h1.mono hB (fun _ _ => rfl) G0 (fun _ h => absurd rfl h)) h2 (hB _ h3)
  | fn h1 h2 => exact .dead
theorem Za {w : World} {B B' : Nat → Prop} {g g' : Nat → Gh} {f : SV → SV} (hf : ∀ x v, RepV w B g x v → RepV w B' g' (f x) v) {l : List SV} {vs : List Value} (h : zU w B g l vs) : zU w B' g' (l.map f) vs :=
  ⟨by simp [h.1], fun i x v h1 h2 => by
    rw [List.getElem?_map] at h1
    obtain ⟨y, hy, rfl⟩ := Option.map_eq_some_iff.1 h1
    exact hf y v (h.2 i y v hy h2)⟩
theorem QM {w : World} {B B' : Nat → Prop} {g g' : Nat → Gh} {ρ : Nat → Option Nat} (hB : ∀ b, B b → B' b) (hρ : ∀ j i, ρ j = some i → g' i = g j) {x : SV} {v : Value} (h : RepV w B g x v) : RepV w B' g' (qfQ ρ x) v := by
  by_cases hx : ∃ f caps, x = .fn f caps
  · obtain ⟨f, caps, rfl⟩ := hx
    cases h with
    | fn h1 h2 =>
      have := Za (f := qay ρ) (fun x v => QL hB hρ) ⟨h1, h2⟩
      exact .fn this.1 this.2
  · have e : qfQ ρ x = qay ρ x := by
      cases x <;> first | rfl | exact absurd ⟨_, _, rfl⟩ hx
    rw [e]; exact QL hB hρ h
theorem K0 {w : World} {B B' : Nat → Prop} {g g' : Nat → Gh} {ρ : Nat → Option Nat} (hB : ∀ b, B b → B' b) (hρ : ∀ j i, ρ j = some i → g' i = g j) {x : SV} {v : Value} (h : RepV w B g x v) : RepV w B' g' (qfR ρ x) v := by
  by_cases hx : ∃ l, x = .ag l
  · obtain ⟨l, rfl⟩ := hx
    cases h with
    | ag h1 h2 h3 =>
      have := Za (f := qfQ ρ) (fun x v => QM hB hρ) ⟨h1, h2⟩
      exact .ag this.1 this.2 h3
  · have e : qfR ρ x = qfQ ρ x := by
      cases x <;> first | rfl | exact absurd ⟨_, rfl⟩ hx
    rw [e]; exact QM hB hρ h
theorem K1 {w : World} {B B' : Nat → Prop} {g g' : Nat → Gh} {ρ : Nat → Option Nat} (hB : ∀ b, B b → B' b) (hρ : ∀ j i, ρ j = some i → g' i = g j) {x : SV} {v : Value} (h : RepV w B g x v) : RepV w B' g' (qfV ρ x) v := by
  by_cases hx : ∃ l, x = .tup l
  · obtain ⟨l, rfl⟩ := hx
    cases h with
    | tup h1 h2 =>
      have := Za (f := qfR ρ) (fun x v => K0 hB hρ) ⟨h1, h2⟩
      exact .tup this.1 this.2
  · have e : qfV ρ x = qfR ρ x := by
      cases x <;> first | rfl | exact absurd ⟨_, rfl⟩ hx
    rw [e]; exact K0 hB hρ h
theorem Zb : ∀ {keep : List Nat} {j i : Nat}, place keep j = some i → keep[i]? = some j
  | [], _, _, h => by simp [place] at h
  | k :: ks, j, i, h => by
    simp only [place] at h
    split at h
    · rename_i e; subst e; obtain rfl := Option.some.inj h; rfl
    · split at h
      · rename_i i' hi'; obtain rfl := Option.some.inj h; simpa using Zb hi'
      · simp at h
theorem Zc : ∀ {keep : List Nat}, ye keep = true → ∀ {i k j : Nat}, keep[i]? = some j → keep[k]? = some j → i = k
  | [], _, i, _, _, h, _ => by simp at h
  | x :: xs, hn, i, k, j, hi, hk => by
    simp only [ye, Bool.and_eq_true, Bool.not_eq_true'] at hn
    cases i with
    | zero =>
      cases k with
      | zero => rfl
      | succ k =>
        simp at hi hk
        subst hi
        have := List.mem_of_getElem? hk
        have h2 : xs.contains x = true := by simpa using this
        rw [h2] at hn; simp at hn
    | succ i =>
      cases k with
      | zero =>
        simp at hi hk
        subst hk
        have := List.mem_of_getElem? hi
        have h2 : xs.contains x = true := by simpa using this
        rw [h2] at hn; simp at hn
      | succ k =>
        have := Zc hn.2 (i := i) (k := k) (j := j) (by simpa using hi) (by simpa using hk)
        omega
theorem jt {nl : Nat} {l keep : List Nat} (h : yz nl l = some keep) : ye keep = true ∧ nl ≤ keep.length ∧ ∀ j, j < nl → keep[j]? = some j := by
  unfold yz at h
  split at h
  · rename_i hc
    obtain rfl := Option.some.inj h
    simp only [Bool.and_eq_true, beq_iff_eq] at hc
    have hl := congrArg List.length hc.1
    simp at hl
    refine ⟨hc.2, by omega, fun j hj => ?_⟩
    have := congrArg (fun l => l[j]?) hc.1
    simp only [List.getElem?_take, if_pos hj, List.getElem?_range hj] at this
    exact this
  · simp at h
def gk (g : Nat → Gh) (keep : List Nat) (i : Nat) : Gh := match keep[i]? with | some j => g j | none => .no
theorem wi {g : Nat → Gh} {keep : List Nat} : ∀ j i, place keep j = some i → gk g keep i = g j := fun j i h => by
  unfold gk; rw [Zb h]
theorem getD_some {os : List SO} {j : Nat} {o : SO} (h : os.getD j .dead = o) (ho : o ≠ .dead) : os[j]? = some o := by
  rw [List.getD_eq_getElem?_getD] at h
  cases hj : os[j]? with
  | none => rw [hj] at h; exact absurd h.symm ho
  | some x => rw [hj] at h; simp at h; rw [h]
theorem yg {ρ : Nat → Option Nat} (o : SO) : (o.ren ρ).isLive = o.isLive := by cases o <;> rfl
theorem Y4 {keep : List Nat} {os : List SO} {i : Nat} {o : SO} (h : (gcO keep os)[i]? = some o) : ∃ j, keep[i]? = some j ∧ o = (os.getD j .dead).ren (place keep) := by
  unfold gcO at h
  rw [List.getElem?_map] at h
  obtain ⟨j, hj, rfl⟩ := Option.map_eq_some_iff.1 h
  exact ⟨j, hj, rfl⟩
theorem Zd {os : List SO} {g : Nat → Gh} {keep : List Nat} {i : Nat} {o : SO} {b : Nat} (h : (gcO keep os)[i]? = some o) (hl : o.isLive = true) (hb : (gk g keep i).block? = some b) :
    ∃ j o', keep[i]? = some j ∧ os[j]? = some o' ∧ o = o'.ren (place keep) ∧ o'.isLive = true ∧ (g j).block? = some b := by
  obtain ⟨j, hj, rfl⟩ := Y4 h
  rw [yg] at hl
  have hd : os.getD j .dead ≠ .dead := fun e => by rw [e] at hl; cases hl
  refine ⟨j, _, hj, getD_some rfl hd, rfl, hl, ?_⟩
  unfold gk at hb
  rw [hj] at hb
  exact hb
theorem y7.ren {w : World} {B B' : Nat → Prop} {g g' : Nat → Gh} {ρ : Nat → Option Nat} (hB : ∀ b, B b → B' b) (hρ : ∀ j i, ρ j = some i → g' i = g j) {j i : Nat} {o : SO} (h : y7 w B g j o) (hi : g' i = g j) : y7 w B' g' i (o.ren ρ) := by
  cases o with
  | dead => trivial
  | frz sz l =>
    rcases h with ⟨a, b⟩ | ⟨b, cap, vs, h1, h2, h3, h4, h5, h6⟩
    · exact .inl ⟨a, by rw [hi]; exact b⟩
    · exact .inr ⟨b, cap, vs, by rw [hi]; exact h1, h2, hB _ h3, h4.mono hB (fun _ _ => rfl) (fun _ h => absurd rfl h), h5, h6⟩
  | arr lt sz l =>
    rcases h with ⟨a, b⟩ | ⟨b, cap, vs, h1, h2, h3, h4, h5, h6⟩
    · exact .inl ⟨a, by rw [hi]; exact b⟩
    · exact .inr ⟨b, cap, vs, by rw [hi]; exact h1, h2, h3.mono hB (fun _ _ => rfl) (fun _ h => absurd rfl h), h4, h5, h6⟩
  | box l =>
    obtain ⟨b, vs, h1, h2, h3, h4, h5⟩ := h
    exact ⟨b, vs, by rw [hi]; exact h1, Za (fun x v => QM hB hρ) h2, h3, h4, h5⟩
theorem qcS {fr : Fr} {os : List SO} {g : Nat → Gh} {w : World} (keep : List Nat) : ∀ b, Bk fr os g w b → Bk fr (gcO keep os) (gk g keep) w b := fun b hb =>
  ⟨hb.1, hb.2.1, fun ⟨i, o, hi, hl, hbl⟩ => by
    obtain ⟨j, o', hj, ho, _, hl', hb'⟩ := Zd hi hl hbl
    exact hb.2.2 ⟨j, o', ho, hl', hb'⟩⟩
theorem qhW {fr : Fr} {os : List SO} {g : Nat → Gh} {w : World} (hm : Mem fr os g w) {keep : List Nat} (hn : ye keep = true) : Mem fr (gcO keep os) (gk g keep) w where
  objs i o hi := by
    obtain ⟨j, hj, rfl⟩ := Y4 hi
    by_cases hd : os.getD j .dead = .dead
    · rw [hd]; trivial
    · exact (hm.objs j _ (getD_some rfl hd)).ren (qcS keep) wi (by unfold gk; rw [hj])
  fresh i hi := by
    unfold gk
    rw [List.getElem?_eq_none (by simpa [gcO] using hi)]
  inj i k oi ok b hi hk li lk bi bk := by
    obtain ⟨j, o', hj, ho, _, hl, hb⟩ := Zd hi li bi
    obtain ⟨j', o'', hj', ho', _, hl', hb'⟩ := Zd hk lk bk
    have := hm.inj j j' o' o'' b ho ho' hl hl' hb hb'
    subst this
    exact Zc hn hj hj'
  own b := by
    rintro ⟨i, o, hi, hl, hb⟩
    obtain ⟨j, o', hj, ho, _, hl', hb'⟩ := Zd hi hl hb
    exact hm.own b ⟨j, o', ho, hl', hb'⟩
  mine i sz l b hi hb := by
    obtain ⟨j, o', hj, ho, e, hl', hb'⟩ := Zd hi rfl hb
    cases o' with
    | arr lt sz' l' => cases e; exact hm.mine j _ _ b ho hb'
    | _ => cases e
  frame := hm.frame
  size := hm.size
  out := hm.out
theorem qf4 (ρ : Nat → Option Nat) (t : Nat) : ∀ (env : Env), yN t (renE ρ env) = qfV ρ (yN t env) := by
  intro env
  induction env with
  | nil => rfl
  | cons p ps ih =>
    simp only [renE, yN]
    split
    · rfl
    · exact ih
theorem gc_ok : GcOK P := by
  intro fr g0 nl nt env os a w hi keep hk
  obtain ⟨g, m, hs, ht, hd, hl, h0⟩ := hi
  obtain ⟨k1, k2, k3⟩ := jt hk
  refine ⟨gk g keep, qhW m k1, fun t => ?_, ht, hd, by simpa [gcO] using k2, fun j hj hn => ?_⟩
  · rw [qf4]
    exact K1 (qcS keep) wi (hs t)
  · unfold gk; rw [k3 j hj]; exact h0 j hj hn
end Go.Proofs.Ytfjbclgbpdlkgaa

/- The evaluator S: what is lent to a callee, and what comes back. -/
namespace Go.Proofs.Ytfjbclgbpdlkgaa
open Go
set_option linter.unusedVariables false
set_option linter.unusedSimpArgs false
variable {P : Program} {T : Tab}
def lent (keep : List Nat) (os : List SO) : List SO := (gcO keep os).map SO.lend
theorem qcT (o : SO) : o.lend.isLive = o.isLive := by cases o <;> rfl
theorem K2 {keep : List Nat} {os : List SO} {i : Nat} {o : SO} (h : (lent keep os)[i]? = some o) : ∃ j, keep[i]? = some j ∧ o = ((os.getD j .dead).ren (place keep)).lend := by
  unfold lent at h
  rw [List.getElem?_map] at h
  obtain ⟨o', ho, rfl⟩ := Option.map_eq_some_iff.1 h
  obtain ⟨j, hj, rfl⟩ := Y4 ho
  exact ⟨j, hj, rfl⟩
theorem yE {os : List SO} {g : Nat → Gh} {keep : List Nat} {i : Nat} {o : SO} {b : Nat} (h : (lent keep os)[i]? = some o) (hl : o.isLive = true) (hb : (gk g keep i).block? = some b) :
    ∃ j o', keep[i]? = some j ∧ os[j]? = some o' ∧ o'.isLive = true ∧ (g j).block? = some b := by
  obtain ⟨j, hj, rfl⟩ := K2 h
  rw [qcT, yg] at hl
  have hd : os.getD j .dead ≠ .dead := fun e => by rw [e] at hl; cases hl
  refine ⟨j, _, hj, getD_some rfl hd, hl, ?_⟩
  unfold gk at hb
  rw [hj] at hb
  exact hb
def frC (w : World) (A : Nat → Prop) (keep : List Nat) (os : List SO) (g : Nat → Gh) : Fr :=
  { N := w.heap.size, A := A, L := fun b => live (lent keep os) (gk g keep) b, w0 := w }
theorem QN {fr : Fr} {os : List SO} {g : Nat → Gh} {w : World} {keep : List Nat} {A : Nat → Prop} (hA : ∀ b, Bk fr os g w b → A b) :
    ∀ b, Bk fr os g w b → Bk (frC w A keep os g) (lent keep os) (gk g keep) w b := fun b hb =>
  ⟨hb.1, fun _ => hA b hb, fun ⟨i, o, hi, hl, hbl⟩ => by
    obtain ⟨j, o', hj, ho, hl', hb'⟩ := yE hi hl hbl
    exact hb.2.2 ⟨j, o', ho, hl', hb'⟩⟩
theorem y7.lend {w : World} {B : Nat → Prop} {g : Nat → Gh} {j : Nat} {o : SO} (h : y7 w B g j o) : y7 w B g j o.lend := by
  cases o <;> exact h
theorem qf5 {fr : Fr} {os : List SO} {g : Nat → Gh} {w : World} (hm : Mem fr os g w) {keep : List Nat} (hn : ye keep = true) {A : Nat → Prop} (hA : ∀ b, Bk fr os g w b → A b) :
    Mem (frC w A keep os g) (lent keep os) (gk g keep) w where
  objs i o hi := by
    obtain ⟨j, hj, rfl⟩ := K2 hi
    by_cases hd : os.getD j .dead = .dead
    · rw [hd]; trivial
    · exact ((hm.objs j _ (getD_some rfl hd)).ren (QN hA) wi (by unfold gk; rw [hj])).lend
  fresh i hi := by
    unfold gk
    rw [List.getElem?_eq_none (by simpa [lent, gcO] using hi)]
  inj i k oi ok b hi hk li lk bi bk := by
    obtain ⟨j, o', hj, ho, hl, hb⟩ := yE hi li bi
    obtain ⟨j', o'', hj', ho', hl', hb'⟩ := yE hk lk bk
    have := hm.inj j j' o' o'' b ho ho' hl hl' hb hb'
    subst this
    exact Zc hn hj hj'
  own b hb := by
    refine ⟨?_, fun _ => hb⟩
    obtain ⟨i, o, hi, hl, hbl⟩ := hb
    obtain ⟨j, o', hj, ho, hl', hb'⟩ := yE hi hl hbl
    exact (hm.own b ⟨j, o', ho, hl', hb'⟩).1
  mine i sz l b hi hb := by
    obtain ⟨j, hj, e⟩ := K2 hi
    cases h : (os.getD j .dead).ren (place keep) <;> rw [h] at e <;> cases e
  frame b _ _ := rfl
  size := Nat.le_refl _
  out := z6.refl _
theorem yF : ∀ {keep : List Nat} {j : Nat}, place keep j = none → ∀ i : Nat, keep[i]? ≠ some j
  | [], _, _, i, h => by simp at h
  | k :: ks, j, hp, i, h => by
    simp only [place] at hp
    split at hp
    · simp at hp
    · rename_i hne
      split at hp
      · simp at hp
      · rename_i hq
        cases i with
        | zero => simp at h; exact hne h
        | succ i => exact yF hq i (by simpa using h)
theorem JB {fr : Fr} {os : List SO} {g : Nat → Gh} {w : World} (hm : Mem fr os g w) {keep : List Nat} {A : Nat → Prop} (hA : ∀ b, Bk fr os g w b → A b) {x : SV} {v : Value} {j sz : Nat} {l : List SV}
    (hx : RepV w (Bk fr os g w) g x v) (he : xE os x = some (sz, l)) (hj : x = .osl j ∨ ∃ lo hi, x = .vw j lo hi) (hk : ∀ i : Nat, keep[i]? ≠ some j) (hs : ∀ lt sz l b, os[j]? = some (.arr lt sz l) → (g j).block? = some b → A b) :
    RepV w (Bk (frC w A keep os g) (lent keep os) (gk g keep) w) (gk g keep) (.sl sz l) v := by
  have hBk : ∀ lt sz l b, os[j]? = some (.arr lt sz l) → (g j).block? = some b → Bk (frC w A keep os g) (lent keep os) (gk g keep) w b := by
    intro lt sz l b h1 h2
    refine ⟨(hm.own b ⟨j, _, h1, rfl, h2⟩).1, fun _ => hs lt sz l b h1 h2, ?_⟩
    rintro ⟨i, o, hi, hl, hb⟩
    obtain ⟨j', o', hj', ho', hl', hb'⟩ := yE hi hl hb
    have := hm.inj j' j o' _ b ho' h1 hl' rfl hb' h2
    subst this
    exact hk i hj'
  obtain ⟨a, c, rfl, hlc, hr⟩ := yC hm hx he
  rcases hr with rfl | ⟨b, o, vs, rfl, h1, h2, h3⟩
  · exact .sl0
  · by_cases hl0 : l = []
    · subst hl0; exact .sl0
    have hb : Bk (frC w A keep os g) (lent keep os) (gk g keep) w b := by
      have hcase : ∀ sz' n cap, g j = .blk b sz' n cap → Bk (frC w A keep os g) (lent keep os) (gk g keep) w b := by
        intro sz' n cap hg
        unfold xE at he
        have hget : ∃ q, os[j]? = some q ∧ ((∃ lt l', q = .arr lt sz l') ∨ ∃ l', q = .frz sz l') := by
          rcases hj with rfl | ⟨lo, hi, rfl⟩
          · simp only at he
            split at he
            · rename_i lt sz' l' hq; obtain ⟨rfl, rfl⟩ := Prod.mk.inj (Option.some.inj he); exact ⟨_, hq, .inl ⟨_, _, rfl⟩⟩
            · rename_i sz' l' hq; obtain ⟨rfl, rfl⟩ := Prod.mk.inj (Option.some.inj he); exact ⟨_, hq, .inr ⟨_, rfl⟩⟩
            · simp at he
          · simp only at he
            split at he
            · rename_i lt sz' l' hq
              split at he
              · obtain ⟨rfl, rfl⟩ := Prod.mk.inj (Option.some.inj he); exact ⟨_, hq, .inl ⟨_, _, rfl⟩⟩
              · simp at he
            · rename_i sz' l' hq
              split at he
              · obtain ⟨rfl, rfl⟩ := Prod.mk.inj (Option.some.inj he); exact ⟨_, hq, .inr ⟨_, rfl⟩⟩
              · simp at he
            · simp at he
        obtain ⟨q, hq, hq'⟩ := hget
        rcases hq' with ⟨lt, l', rfl⟩ | ⟨l', rfl⟩
        · exact hBk lt sz l' b hq (by rw [hg]; rfl)
        · rcases hm.objs _ _ hq with ⟨_, hn⟩ | ⟨b', cap', vs', e1, e2, e3, _⟩
          · rw [hg] at hn; cases hn
          · rw [hg] at e1; cases e1; exact QN hA b e3
      rcases hj with rfl | ⟨lo, hi, rfl⟩
      · cases hx with
        | osl hg => exact hcase _ _ _ hg
      · generalize hv : (Value.slice (some ⟨b, o, none⟩) l.length c) = vv at hx
        cases hx with
        | vw0 =>
          injection hv with h1 h2 h3
          have hz : l.length = 0 := h2
          exact absurd (List.length_eq_zero_iff.1 hz) hl0
        | vw hg _ _ _ =>
          injection hv with h1 h2 h3
          injection h1 with h1
          injection h1 with h1 _ _
          subst h1
          exact hcase _ _ _ hg
    have := h1.mono (QN (keep := keep) hA) (fun _ _ => rfl) (g' := G0) (fun _ h => absurd rfl h)
    exact .sl this.1 this.2 h2 h3 hb hlc
theorem Ze {fr : Fr} {os : List SO} {g : Nat → Gh} {w : World} (hm : Mem fr os g w) {keep : List Nat} {A : Nat → Prop} (hA : ∀ b, Bk fr os g w b → A b) {x y : SV} {v : Value}
    (hx : RepV w (Bk fr os g w) g x v) (h : xQ os keep x = some y) (hs : ∀ j, (x = .osl j ∨ ∃ lo hi, x = .vw j lo hi) → (∀ i : Nat, keep[i]? ≠ some j) → ∀ lt sz l b, os[j]? = some (.arr lt sz l) → (g j).block? = some b → A b) :
    RepV w (Bk (frC w A keep os g) (lent keep os) (gk g keep) w) (gk g keep) y v := by
  have hsub := QN (keep := keep) hA
  unfold xQ at h
  split at h
  · obtain rfl := Option.some.inj h; cases hx with | v hv => exact .v hv
  · obtain rfl := Option.some.inj h; exact QL (x := .sl _ _) hsub wi hx
  · obtain rfl := Option.some.inj h; exact QL (x := .el _ _) hsub wi hx
  · rename_i j o
    split at h
    · rename_i i hi
      obtain rfl := Option.some.inj h
      cases hx with | ptr hp => exact .ptr (by rw [wi j i hi]; exact hp)
    · simp at h
  · rename_i j i o
    split at h
    · rename_i k hk
      obtain rfl := Option.some.inj h
      cases hx with | ap hp => exact .ap (by rw [wi j k hk]; exact hp)
    · simp at h
  · rename_i f caps
    obtain rfl := Option.some.inj h
    exact QM (x := .fn f caps) hsub wi hx
  · rename_i j
    split at h
    · rename_i i hi
      obtain rfl := Option.some.inj h
      cases hx with
      | osl0 hp => exact .osl0 (by rw [wi j i hi]; exact hp)
      | osl hp => exact .osl (by rw [wi j i hi]; exact hp)
    · rename_i hi
      split at h
      · rename_i p hp
        obtain rfl := Option.some.inj h
        exact JB hm hA hx hp (.inl rfl) (yF hi) (hs j (.inl rfl) (yF hi))
      · simp at h
  · rename_i j lo hh
    split at h
    · simp at h
    · rename_i hi
      split at h
      · rename_i p hp
        obtain rfl := Option.some.inj h
        exact JB hm hA hx hp (.inr ⟨lo, hh, rfl⟩) (yF hi) (hs j (.inr ⟨lo, hh, rfl⟩) (yF hi))
      · simp at h
  · simp at h
theorem WU {fr : Fr} {os : List SO} {g : Nat → Gh} {w : World} (hm : Mem fr os g w) {keep : List Nat} {A : Nat → Prop} (hA : ∀ b, Bk fr os g w b → A b) : ∀ (xs : List SV) {ys : List SV} {vs : List Value},
    zU w (Bk fr os g w) g xs vs → yO os keep xs = some ys →
    (∀ x, x ∈ xs → ∀ j, (x = .osl j ∨ ∃ lo hi, x = .vw j lo hi) → (∀ i : Nat, keep[i]? ≠ some j) → ∀ lt sz l b, os[j]? = some (.arr lt sz l) → (g j).block? = some b → A b) →
    zU w (Bk (frC w A keep os g) (lent keep os) (gk g keep) w) (gk g keep) ys vs := by
  intro xs
  induction xs with
  | nil =>
    intro ys vs hl h hs
    simp only [yO, Option.some.injEq] at h
    subst h
    have := hl.1
    cases vs with
    | nil => exact zU.nil
    | cons => simp at this
  | cons x xs ih =>
    intro ys vs hl h hs
    obtain ⟨v, vs', rfl, hv, hl'⟩ := hl.uncons
    simp only [yO] at h
    split at h
    · rename_i y ys' hy hys
      obtain rfl := Option.some.inj h
      exact zU.cons (Ze hm hA hv hy (hs x (by simp))) (ih hl' hys fun z hz => hs z (by simp [hz]))
    · simp at h
theorem qf6 {fr : Fr} {os : List SO} {g : Nat → Gh} {w : World} (hm : Mem fr os g w) {keep : List Nat} {A : Nat → Prop} (hA : ∀ b, Bk fr os g w b → A b) {x y : SV} {v : Value}
    (hx : RepV w (Bk fr os g w) g x v) (h : argV os keep x = some y) (hs : ∀ z, z ∈ x.cells → ∀ j, (z = .osl j ∨ ∃ lo hi, z = .vw j lo hi) → (∀ i : Nat, keep[i]? ≠ some j) → ∀ lt sz l b, os[j]? = some (.arr lt sz l) → (g j).block? = some b → A b) :
    RepV w (Bk (frC w A keep os g) (lent keep os) (gk g keep) w) (gk g keep) y v := by
  unfold argV at h
  split at h
  · rename_i l
    split at h
    · rename_i ys hys
      obtain rfl := Option.some.inj h
      cases hx with
      | ag h1 h2 h3 =>
        have := WU hm hA l ⟨h1, h2⟩ hys hs
        exact .ag this.1 this.2 h3
    · simp at h
  · rename_i hna
    have e : x.cells = [x] := by cases x <;> first | rfl | exact absurd rfl (hna _)
    exact Ze hm hA hx h (hs x (by rw [e]; simp))
theorem qcU {fr : Fr} {os : List SO} {g : Nat → Gh} {w : World} (hm : Mem fr os g w) {keep : List Nat} {A : Nat → Prop} (hA : ∀ b, Bk fr os g w b → A b) : ∀ (xs : List SV) {ys : List SV} {vs : List Value},
    zU w (Bk fr os g w) g xs vs → QX os keep xs = some ys →
    (∀ x, x ∈ xs → ∀ z, z ∈ x.cells → ∀ j, (z = .osl j ∨ ∃ lo hi, z = .vw j lo hi) → (∀ i : Nat, keep[i]? ≠ some j) → ∀ lt sz l b, os[j]? = some (.arr lt sz l) → (g j).block? = some b → A b) →
    zU w (Bk (frC w A keep os g) (lent keep os) (gk g keep) w) (gk g keep) ys vs := by
  intro xs
  induction xs with
  | nil =>
    intro ys vs hl h hs
    simp only [QX, Option.some.injEq] at h
    subst h
    have := hl.1
    cases vs with
    | nil => exact zU.nil
    | cons => simp at this
  | cons x xs ih =>
    intro ys vs hl h hs
    obtain ⟨v, vs', rfl, hv, hl'⟩ := hl.uncons
    simp only [QX] at h
    split at h
    · rename_i y ys' hy hys
      obtain rfl := Option.some.inj h
      exact zU.cons (qf6 hm hA hv hy (hs x (by simp))) (ih hl' hys fun z hz => hs z (by simp [hz]))
    · simp at h
end Go.Proofs.Ytfjbclgbpdlkgaa

/- The evaluator S: behind a call. -/
namespace Go.Proofs.Ytfjbclgbpdlkgaa
open Go
set_option linter.unusedVariables false
set_option linter.unusedSimpArgs false
variable {P : Program} {T : Tab}
theorem flat1 {w : World} {B B' : Nat → Prop} {g : Nat → Gh} {x : SV} {v : Value} (h : RepV w B g x v) (hx : qg x = false) : RepV w B' g x v := by
  cases h <;> simp [qg] at hx
  · exact .v (by assumption)
  · exact .dead
  · exact .osl0 (by assumption)
  · exact .osl (by assumption)
  · exact .ptr (by assumption)
  · rename_i f caps vs h1 h2
    cases caps with
    | nil =>
      obtain rfl : vs = [] := by cases vs <;> simp at h1 ⊢
      exact RepV.fn (caps := []) (vs := []) rfl (fun i x v h => by simp at h)
    | cons => simp [qg] at hx
theorem flatL {w : World} {B B' : Nat → Prop} {g : Nat → Gh} {l : List SV} {vs : List Value} (h : zU w B g l vs) (hx : l.any qg = false) : zU w B' g l vs :=
  ⟨h.1, fun i x v h1 h2 => flat1 (h.2 i x v h1 h2) (by
    have := List.any_eq_false.1 hx x (List.mem_of_getElem? h1)
    simpa using this)⟩
theorem qiV {w : World} {B B' : Nat → Prop} {g : Nat → Gh} {x : SV} {v : Value} (h : RepV w B g x v) (hx : x.cells.any qg = false) : RepV w B' g x v := by
  by_cases ha : ∃ l, x = .ag l
  · obtain ⟨l, rfl⟩ := ha
    cases h with
    | ag h1 h2 h3 =>
      have := flatL (B' := B') ⟨h1, h2⟩ hx
      exact .ag this.1 this.2 h3
  · have e : x.cells = [x] := by cases x <;> first | rfl | exact absurd ⟨_, rfl⟩ ha
    rw [e] at hx
    exact flat1 h (by simpa using hx)
theorem flat3 {w : World} {B B' : Nat → Prop} {g : Nat → Gh} {x : SV} {v : Value} (h : RepV w B g x v) (hx : qh x = false) : RepV w B' g x v := by
  by_cases ha : ∃ l, x = .tup l
  · obtain ⟨l, rfl⟩ := ha
    cases h with
    | tup h1 h2 =>
      refine .tup h1 fun i x v hx' hv => qiV (h2 i x v hx' hv) ?_
      have := List.any_eq_false.1 hx x (List.mem_of_getElem? hx')
      simpa using this
  · have e : qh x = x.cells.any qg := by cases x <;> first | rfl | exact absurd ⟨_, rfl⟩ ha
    rw [e] at hx
    exact qiV h hx
theorem flatE {w : World} {B B' : Nat → Prop} {g : Nat → Gh} {x : SV} {v : Value} (h : RepV w B g x v) (hx : qi x = true) : RepV w B' g x v := by
  refine qiV h ?_
  rw [List.any_eq_false]
  intro y hy
  have := List.all_eq_true.1 hx y hy
  cases y <;> simp_all [qg]
theorem y7.flat {w : World} {B B' : Nat → Prop} {g : Nat → Gh} {j : Nat} {o : SO} (h : y7 w B g j o) (hf : o.hasSl = false) : y7 w B' g j o := by
  cases o with
  | dead => trivial
  | frz sz l => simp [SO.hasSl] at hf
  | arr lt sz l =>
    rcases h with h | ⟨b, cap, vs, h1, h2, h3, h4⟩
    · exact .inl h
    · refine .inr ⟨b, cap, vs, h1, h2, ⟨h3.1, fun i x v hx hv => flatE (h3.2 i x v hx hv) ?_⟩, h4⟩
      simp only [SO.hasSl, Bool.not_eq_false'] at hf
      exact List.all_eq_true.1 hf x (List.mem_of_getElem? hx)
  | box l =>
    obtain ⟨b, vs, h1, h2, h3⟩ := h
    exact ⟨b, vs, h1, flatL h2 hf, h3⟩
def Kin (o o0 : SO) : Prop := (∀ b sz l, o0 = .arr b sz l → ∃ b' l', o = .arr b' sz l') ∧ ∀ l, o0 = .box l → ∃ l', o = .box l'
def mix (β : Nat → Option Nat) (o o0 : SO) : SO :=
  match o, o0 with
  | .arr _ sz l, .arr b _ _ => .arr b sz l
  | .box l, .box _ => .box (l.map (qfQ β))
  | _, o0 => o0
theorem xT (β : Nat → Option Nat) : ∀ (keep : List Nat) (los os os1 : List SO), ye keep = true → we β keep los os = some os1 →
    os1.length = os.length ∧ (∀ j, (∀ i : Nat, keep[i]? ≠ some j) → os1[j]? = os[j]?) ∧
    ∀ (i j : Nat), keep[i]? = some j → ∃ o o0, los[i]? = some o ∧ os[j]? = some o0 ∧ os1[j]? = some (mix β o o0) ∧ o.isLive = o0.isLive ∧ o0.there = true ∧
      Kin o o0 ∧ (∀ sz l, o = .frz sz l → ∃ sz' l', o0 = .frz sz' l') := by
  intro keep
  induction keep with
  | nil =>
    intro los os os1 _ h
    simp only [we, Option.some.injEq] at h
    subst h
    exact ⟨rfl, fun _ _ => rfl, fun i j h => by simp at h⟩
  | cons j js ih =>
    intro los os os1 hn h
    simp only [ye, Bool.and_eq_true, Bool.not_eq_true'] at hn
    obtain ⟨hn1, hn2⟩ := hn
    have hnot : ∀ i : Nat, js[i]? ≠ some j := fun i h => by
      have : js.contains j = true := by simpa using List.mem_of_getElem? h
      rw [this] at hn1; cases hn1
    cases los with
    | nil => simp [we] at h
    | cons o los =>
      simp only [we] at h
      have core : ∀ (o0 x : SO), os[j]? = some o0 → we β js los (os.set j x) = some os1 → x = mix β o o0 → o.isLive = o0.isLive → o0.there = true →
          Kin o o0 → (∀ sz l, o = .frz sz l → ∃ sz' l', o0 = .frz sz' l') →
          os1.length = os.length ∧ (∀ k, (∀ i : Nat, (j :: js)[i]? ≠ some k) → os1[k]? = os[k]?) ∧
          ∀ (i k : Nat), (j :: js)[i]? = some k → ∃ o' o0', (o :: los)[i]? = some o' ∧ os[k]? = some o0' ∧ os1[k]? = some (mix β o' o0') ∧ o'.isLive = o0'.isLive ∧ o0'.there = true ∧
            Kin o' o0' ∧ (∀ sz l, o' = .frz sz l → ∃ sz' l', o0' = .frz sz' l') := by
        intro o0 x hj hg hx hl ht hz hf
        obtain ⟨h1, h2, h3⟩ := ih los _ os1 hn2 hg
        have hset : ∀ k, k ≠ j → (os.set j x)[k]? = os[k]? := fun k hk => by rw [List.getElem?_set, if_neg (fun e => hk e.symm)]
        refine ⟨by simpa using h1, fun k hk => ?_, fun i k hi => ?_⟩
        · have hkj : k ≠ j := fun e => by subst e; exact hk 0 rfl
          rw [h2 k (fun i hi => hk (i + 1) (by simpa using hi)), hset k hkj]
        · cases i with
          | zero =>
            simp at hi
            subst hi
            refine ⟨o, o0, rfl, hj, ?_, hl, ht, hz, hf⟩
            rw [h2 j hnot, ← hx, List.getElem?_set, if_pos rfl]
            first | rfl | rw [if_pos (q6 hj)]
          | succ i =>
            have hi' : js[i]? = some k := by simpa using hi
            have hkj : k ≠ j := fun e => by subst e; exact hnot i hi'
            obtain ⟨o', o0', a1, a2, a3⟩ := h3 i k hi'
            exact ⟨o', o0', by simpa using a1, by rw [← hset k hkj]; exact a2, a3⟩
      split at h
      · rename_i bb sz l b sz' l' hj
        split at h
        · rename_i e
          subst e
          exact core _ _ hj h rfl rfl rfl ⟨(fun b sz l e => by cases e; exact ⟨_, _, rfl⟩), fun l e => by cases e⟩ (fun sz l e => by cases e)
        · simp at h
      · rename_i l l' hj
        exact core _ _ hj h rfl rfl rfl ⟨(fun b sz l e => by cases e), fun l e => by cases e; exact ⟨_, rfl⟩⟩ (fun sz l e => by cases e)
      · rename_i sz l sz' l' hj
        exact core _ (.frz sz' l') hj (by rw [KY hj]; exact h) rfl rfl rfl ⟨(fun b sz l e => by cases e), fun l e => by cases e⟩ (fun sz l e => ⟨_, _, rfl⟩)
      · simp at h
theorem qcV {fr : Fr} {g : Nat → Gh} {w : World} : ∀ (js : List Nat) {os os1 : List SO}, Mem fr os g w → freeze js os = some os1 →
    Mem fr os1 g w ∧ Grow fr os g w os1 g w ∧ os1.length = os.length ∧ (∀ j, j ∉ js → os1[j]? = os[j]?) ∧ ∀ j, j ∈ js → ∃ sz l, os1[j]? = some (.frz sz l) := by
  intro js
  induction js with
  | nil =>
    intro os os1 hm h
    simp only [freeze, Option.some.injEq] at h
    subst h
    exact ⟨hm, Grow.refl _ _ _ _, rfl, fun _ _ => rfl, fun j h => by simp at h⟩
  | cons j js ih =>
    intro os os1 hm h
    simp only [freeze] at h
    split at h
    · rename_i sz l hj
      have hm1 := jW hm hj
      obtain ⟨a1, a2, a3, a4, a5⟩ := ih hm1 h
      refine ⟨a1, (yD hm hj).grow.trans a2, by simpa using a3, fun k hk => ?_, fun k hk => ?_⟩
      · simp at hk
        rw [a4 k hk.2, List.getElem?_set, if_neg (fun e => hk.1 e.symm)]
      · by_cases hjs : k ∈ js
        · exact a5 k hjs
        · have : k = j := by simpa [hjs] using hk
          subst this
          refine ⟨sz, l, ?_⟩
          rw [a4 k hjs, List.getElem?_set, if_pos rfl]
          first | rfl | rw [if_pos (q6 hj)]
    · rename_i sz l hj
      obtain ⟨a1, a2, a3, a4, a5⟩ := ih hm h
      refine ⟨a1, a2, a3, fun k hk => a4 k (fun hh => hk (by simp [hh])), fun k hk => ?_⟩
      by_cases hjs : k ∈ js
      · exact a5 k hjs
      · have : k = j := by simpa [hjs] using hk
        subst this
        exact ⟨sz, l, by rw [a4 k hjs]; exact hj⟩
    · simp at h
def gB (g g' : Nat → Gh) (n m : Nat) (j : Nat) : Gh := if j < n then g j else g' (m + (j - n))
theorem qf7 {fr : Fr} {os os0 os1 los : List SO} {g g' : Nat → Gh} {w w' : World} {keep : List Nat} {A : Nat → Prop} (hm : Mem fr os g w) (hn : ye keep = true)
    (hm0 : Mem fr os0 g w) (hlen : os0.length = os.length) (hsame : ∀ i j : Nat, keep[i]? = some j → os0[j]? = os[j]?) (hth : (gcO keep os).all SO.there = true)
    (hmc : Mem (frC w A keep os g) los g' w') (hg' : ∀ i, i < keep.length → gk g keep i ≠ .no → g' i = gk g keep i) (hll : keep.length ≤ los.length)
    (hb : we (zJ keep os.length) keep los os0 = some os1) (hown : (los.drop keep.length).all SO.own = true)
    (hsl : (∀ b, b < w.heap.size → A b → (b < fr.N → fr.A b) ∧ ¬ live os0 g b) ∨ los.any SO.hasSl = false) :
    Mem fr (os1 ++ (los.drop keep.length).map (SO.ren (zJ keep os.length))) (gB g g' os.length keep.length) w' ∧
    Grow fr os0 g w (os1 ++ (los.drop keep.length).map (SO.ren (zJ keep os.length))) (gB g g' os.length keep.length) w' ∧
    (∀ x v, RepV w' (Bk (frC w A keep os g) los g' w') g' x v → ((∀ b, b < w.heap.size → A b → (b < fr.N → fr.A b) ∧ ¬ live os0 g b) ∨ qh x = false) →
      RepV w' (Bk fr (os1 ++ (los.drop keep.length).map (SO.ren (zJ keep os.length))) (gB g g' os.length keep.length) w') (gB g g' os.length keep.length) (qfV (zJ keep os.length) x) v) := by
  obtain ⟨b1, b2, b3⟩ := xT _ keep los os0 os1 hn hb
  have hthere : ∀ i j : Nat, keep[i]? = some j → j < os.length ∧ ∃ o, os[j]? = some o ∧ o.there = true := by
    intro i j hi
    have hgo : (gcO keep os)[i]? = some ((os.getD j .dead).ren (place keep)) := by unfold gcO; rw [List.getElem?_map, hi]; rfl
    have := List.all_eq_true.1 hth _ (List.mem_of_getElem? hgo)
    have hd : os.getD j .dead ≠ .dead := fun e => by rw [e] at this; cases this
    have hj := getD_some rfl hd
    refine ⟨q6 hj, _, hj, ?_⟩
    cases h : os.getD j .dead <;> rw [h] at this <;> first | rfl | exact absurd h hd
  have hgne : ∀ i j : Nat, keep[i]? = some j → g j ≠ .no := by
    intro i j hi
    obtain ⟨_, o, ho, ht⟩ := hthere i j hi
    have hok := hm.objs j o ho
    cases o with
    | dead => cases ht
    | frz sz l => rcases hok with ⟨_, h⟩ | ⟨b, cap, vs, h, _⟩ <;> rw [h] <;> simp
    | arr lt sz l => rcases hok with ⟨_, h⟩ | ⟨b, cap, vs, h, _⟩ <;> rw [h] <;> simp
    | box l => obtain ⟨b, vs, h, _⟩ := hok; rw [h]; simp
  have hgk : ∀ i j : Nat, keep[i]? = some j → g' i = g j := by
    intro i j hi
    have e : gk g keep i = g j := by unfold gk; rw [hi]
    rw [hg' i (q6 hi) (by rw [e]; exact hgne i j hi), e]
  have hG1 : ∀ j, j < os.length → gB g g' os.length keep.length j = g j := fun j hj => by unfold gB; rw [if_pos hj]
  have hG2 : ∀ k, gB g g' os.length keep.length (os.length + k) = g' (keep.length + k) := fun k => by unfold gB; rw [if_neg (by omega)]; congr 1; omega
  have hGβ : ∀ i j, zJ keep os.length i = some j → gB g g' os.length keep.length j = g' i := by
    intro i j h
    unfold zJ at h
    split at h
    · rename_i hi
      rw [hG1 j (hthere i j h).1, hgk i j h]
    · rename_i hi
      obtain rfl := Option.some.inj h
      rw [hG2]; congr 1; omega
  have hlen1 : os1.length = os.length := by rw [b1, hlen]
  have src : ∀ (k : Nat) (o : SO), (os1 ++ (los.drop keep.length).map (SO.ren (zJ keep os.length)))[k]? = some o →
      (k < os.length ∧ (∀ i : Nat, keep[i]? ≠ some k) ∧ os0[k]? = some o) ∨
      (∃ (i : Nat) (o' o0 : SO), keep[i]? = some k ∧ los[i]? = some o' ∧ os0[k]? = some o0 ∧ o = mix (zJ keep os.length) o' o0 ∧ o'.isLive = o0.isLive ∧ o0.there = true ∧ Kin o' o0 ∧ (∀ sz l, o' = .frz sz l → ∃ sz' l', o0 = .frz sz' l')) ∨
      (∃ (q : Nat) (o' : SO), k = os.length + q ∧ los[keep.length + q]? = some o' ∧ o = o'.ren (zJ keep os.length) ∧ o'.own = true) := by
    intro k o hk
    rcases Nat.lt_or_ge k os1.length with h | h
    · rw [List.getElem?_append_left h] at hk
      by_cases hin : ∃ i : Nat, keep[i]? = some k
      · obtain ⟨i, hi⟩ := hin
        obtain ⟨o', o0, a1, a2, a3, a4, a5, a6, a7⟩ := b3 i k hi
        rw [a3] at hk
        exact .inr (.inl ⟨i, o', o0, hi, a1, a2, (Option.some.inj hk).symm, a4, a5, a6, a7⟩)
      · have hin' : ∀ i : Nat, keep[i]? ≠ some k := fun i hi => hin ⟨i, hi⟩
        rw [b2 k hin'] at hk
        exact .inl ⟨by omega, hin', hk⟩
    · rw [List.getElem?_append_right h, List.getElem?_map] at hk
      obtain ⟨o', ho', rfl⟩ := Option.map_eq_some_iff.1 hk
      have how := List.all_eq_true.1 hown o' (List.mem_of_getElem? ho')
      rw [List.getElem?_drop] at ho'
      exact .inr (.inr ⟨k - os1.length, o', by omega, ho', rfl, how⟩)
  have hLlive : ∀ b, live (lent keep os) (gk g keep) b → ∃ (i j : Nat) (o : SO), keep[i]? = some j ∧ os0[j]? = some o ∧ o.isLive = true ∧ (g j).block? = some b := by
    rintro b ⟨i, o, hi, hl, hbl⟩
    obtain ⟨j, o', hj, ho, hl', hb'⟩ := yE hi hl hbl
    exact ⟨i, j, o', hj, by rw [hsame i j hj]; exact ho, hl', hb'⟩
  have hold : ∀ (k : Nat) (o : SO) (b : Nat), (∀ i : Nat, keep[i]? ≠ some k) → os0[k]? = some o → o.isLive = true → (g k).block? = some b → ¬ live (lent keep os) (gk g keep) b := by
    intro k o b hk ho hl hbl hL
    obtain ⟨i, j, o', hi, ho', hl', hb'⟩ := hLlive b hL
    have := hm0.inj j k o' o b ho' ho hl' hl hb' hbl
    subst this
    exact hk i hi
  have hLl0 : ∀ b, live (lent keep os) (gk g keep) b → live os0 g b := fun b hL => by
    obtain ⟨i, j, o, hi, ho, hl, hbl⟩ := hLlive b hL
    exact ⟨j, o, ho, hl, hbl⟩
  have hNs : fr.N ≤ w.heap.size := hm.size
  have hwsz : w.heap.size ≤ w'.heap.size := hmc.size
  have hwsame : ∀ b, b < w.heap.size → ¬ live (lent keep os) (gk g keep) b → w'.heap[b]? = w.heap[b]? := fun b h1 h2 => hmc.frame b h1 h2
  have mixl : ∀ (β : Nat → Option Nat) (o o0 : SO), o.isLive = o0.isLive → (mix β o o0).isLive = o0.isLive := by
    intro β o o0 h
    cases o <;> cases o0 <;> first | rfl | (simp [mix, SO.isLive] at h ⊢)
  have nlive : ∀ b, live (os1 ++ (los.drop keep.length).map (SO.ren (zJ keep os.length))) (gB g g' os.length keep.length) b →
      (∃ (k : Nat) (o : SO), (∀ i : Nat, keep[i]? ≠ some k) ∧ os0[k]? = some o ∧ o.isLive = true ∧ (g k).block? = some b) ∨ live los g' b := by
    rintro b ⟨k, o, hk, hl, hbl⟩
    rcases src k o hk with ⟨s1, s2, s3⟩ | ⟨i, o', o0, s1, s2, s3, rfl, s5, s6, s7⟩ | ⟨q, o', rfl, s2, rfl, s4⟩
    · rw [hG1 k s1] at hbl; exact .inl ⟨k, o, s2, s3, hl, hbl⟩
    · rw [mixl _ _ _ s5, ← s5] at hl
      rw [hG1 k (hthere i k s1).1, ← hgk i k s1] at hbl
      exact .inr ⟨i, o', s2, hl, hbl⟩
    · rw [yg] at hl; rw [hG2] at hbl; exact .inr ⟨_, o', s2, hl, hbl⟩
  have cown : ∀ b, live los g' b → b < w'.heap.size ∧ (b < w.heap.size → live (lent keep os) (gk g keep) b) := fun b hb => hmc.own b hb
  have hsub : ∀ b, Bk fr os0 g w b → Bk fr (os1 ++ (los.drop keep.length).map (SO.ren (zJ keep os.length))) (gB g g' os.length keep.length) w' b := by
    intro b hb
    refine ⟨Nat.lt_of_lt_of_le hb.1 hwsz, hb.2.1, fun hl => ?_⟩
    rcases nlive b hl with ⟨k, o, h1, h2, h3, h4⟩ | h
    · exact hb.2.2 ⟨k, o, h2, h3, h4⟩
    · exact hb.2.2 (hLl0 b ((cown b h).2 hb.1))
  have hsm : ∀ b, Bk fr os0 g w b → w'.heap[b]? = w.heap[b]? := fun b hb => hwsame b hb.1 fun hL => hb.2.2 (hLl0 b hL)
  have hext : ∀ j, g j ≠ .no → gB g g' os.length keep.length j = g j := fun j hj => hG1 j (by
    rcases Nat.lt_or_ge j os.length with h | h
    · exact h
    · exact absurd (hm.fresh j h) hj)
  have hgrow : Grow fr os0 g w (os1 ++ (los.drop keep.length).map (SO.ren (zJ keep os.length))) (gB g g' os.length keep.length) w' := ⟨hsub, hsm, hext⟩
  have hBn : (∀ b, b < w.heap.size → A b → (b < fr.N → fr.A b) ∧ ¬ live os0 g b) → ∀ b, Bk (frC w A keep os g) los g' w' b → Bk fr (os1 ++ (los.drop keep.length).map (SO.ren (zJ keep os.length))) (gB g g' os.length keep.length) w' b := by
    intro hA b hb
    refine ⟨hb.1, fun h => ?_, fun hl => ?_⟩
    · exact (hA b (Nat.lt_of_lt_of_le h hNs) (hb.2.1 (Nat.lt_of_lt_of_le h hNs))).1 h
    · rcases nlive b hl with ⟨k, o, h1, h2, h3, h4⟩ | h
      · have hlt := (hm0.own b ⟨k, o, h2, h3, h4⟩).1
        exact (hA b hlt (hb.2.1 hlt)).2 ⟨k, o, h2, h3, h4⟩
      · exact hb.2.2 h
  have tr : ∀ (i j : Nat) (o : SO), los[i]? = some o → gB g g' os.length keep.length j = g' i → y7 w' (Bk fr (os1 ++ (los.drop keep.length).map (SO.ren (zJ keep os.length))) (gB g g' os.length keep.length) w') (gB g g' os.length keep.length) j (o.ren (zJ keep os.length)) := by
    intro i j o ho hj
    rcases hsl with hA | hf
    · exact (hmc.objs i o ho).ren (hBn hA) hGβ hj
    · have : o.hasSl = false := by
        have := List.any_eq_false.1 hf o (List.mem_of_getElem? ho)
        simpa using this
      exact ((hmc.objs i o ho).flat (B' := Bk fr (os1 ++ (los.drop keep.length).map (SO.ren (zJ keep os.length))) (gB g g' os.length keep.length) w') this).ren (fun _ h => h) hGβ hj
  refine ⟨?_, hgrow, fun x v hx hsx => ?_⟩
  · refine { objs := ?_, fresh := ?_, inj := ?_, own := ?_, mine := ?_, frame := ?_, size := Nat.le_trans hNs hwsz, out := hm.out.trans hmc.out }
    · intro k o hk
      rcases src k o hk with ⟨s1, s2, s3⟩ | ⟨i, o', o0, s1, s2, s3, rfl, s5, s6, s7, s8⟩ | ⟨q, o', rfl, s2, rfl, s4⟩
      · refine (hm0.objs k o s3).mono hsub hsm hext fun b hl hbl => ?_
        exact hwsame b (hm0.own b ⟨k, o, s3, hl, hbl⟩).1 (hold k o b s2 s3 hl hbl)
      · have hkl := (hthere i k s1).1
        have := tr i k o' s2 (by rw [hG1 k hkl, hgk i k s1])
        cases o0 with
        | dead => cases s6
        | box l0 =>
          obtain ⟨l', rfl⟩ := s7.2 _ rfl
          exact this
        | arr b0 sz0 l0 =>
          obtain ⟨b', l', rfl⟩ := s7.1 _ _ _ rfl
          exact this
        | frz sz0 l0 =>
          have e : mix (zJ keep os.length) o' (.frz sz0 l0) = .frz sz0 l0 := by cases o' <;> rfl
          rw [e]
          exact (hm0.objs k _ s3).mono hsub hsm hext fun b hl _ => by cases hl
      · exact tr _ _ o' s2 (hG2 q)
    · intro k hk
      simp at hk
      have : k = os.length + (k - os.length) := by omega
      rw [this, hG2]
      exact hmc.fresh _ (by omega)
    · intro i k oi ok b hi hk li lk bi bk
      rcases src i oi hi with ⟨s1, s2, s3⟩ | ⟨i', o', o0, s1, s2, s3, rfl, s5, s6⟩ | ⟨q, o', rfl, s2, rfl, s4⟩ <;>
      rcases src k ok hk with ⟨t1, t2, t3⟩ | ⟨k', p', p0, t1, t2, t3, rfl, t5, t6⟩ | ⟨q', p', rfl, t2, rfl, t4⟩
      · rw [hG1 i s1] at bi; rw [hG1 k t1] at bk; exact hm0.inj i k oi ok b s3 t3 li lk bi bk
      · rw [hG1 i s1] at bi
        rw [hG1 k (hthere k' k t1).1] at bk
        rw [mixl _ _ _ t5] at lk
        exact hm0.inj i k oi p0 b s3 t3 li lk bi bk
      · rw [hG1 i s1] at bi; rw [hG2] at bk; rw [yg] at lk
        have hlt := (hm0.own b ⟨i, oi, s3, li, bi⟩).1
        exact absurd ((cown b ⟨_, p', t2, lk, bk⟩).2 hlt) (hold i oi b s2 s3 li bi)
      · rw [hG1 k t1] at bk
        rw [hG1 i (hthere i' i s1).1] at bi
        rw [mixl _ _ _ s5] at li
        exact hm0.inj i k o0 ok b s3 t3 li lk bi bk
      · rw [hG1 i (hthere i' i s1).1] at bi
        rw [mixl _ _ _ s5] at li
        rw [hG1 k (hthere k' k t1).1] at bk
        rw [mixl _ _ _ t5] at lk
        exact hm0.inj i k o0 p0 b s3 t3 li lk bi bk
      · rw [hG1 i (hthere i' i s1).1, ← hgk i' i s1] at bi
        rw [mixl _ _ _ s5, ← s5] at li
        rw [hG2] at bk; rw [yg] at lk
        have := hmc.inj i' _ o' p' b s2 t2 li lk bi bk
        have := q6 s1
        omega
      · rw [hG1 k t1] at bk; rw [hG2] at bi; rw [yg] at li
        have hlt := (hm0.own b ⟨k, ok, t3, lk, bk⟩).1
        exact absurd ((cown b ⟨_, o', s2, li, bi⟩).2 hlt) (hold k ok b t2 t3 lk bk)
      · rw [hG1 k (hthere k' k t1).1, ← hgk k' k t1] at bk
        rw [mixl _ _ _ t5, ← t5] at lk
        rw [hG2] at bi; rw [yg] at li
        have := hmc.inj _ k' o' p' b s2 t2 li lk bi bk
        have := q6 t1
        omega
      · rw [hG2] at bi bk; rw [yg] at li lk
        have := hmc.inj _ _ o' p' b s2 t2 li lk bi bk
        omega
    · intro b hl
      rcases nlive b hl with ⟨k, o, h1, h2, h3, h4⟩ | h
      · have := hm0.own b ⟨k, o, h2, h3, h4⟩
        exact ⟨Nat.lt_of_lt_of_le this.1 hwsz, this.2⟩
      · obtain ⟨c1, c2⟩ := cown b h
        refine ⟨c1, fun hN => ?_⟩
        exact (hm0.own b (hLl0 b (c2 (Nat.lt_of_lt_of_le hN hNs)))).2 hN
    · intro k sz l b hk hbl
      rcases src k _ hk with ⟨s1, s2, s3⟩ | ⟨i, o', o0, s1, s2, s3, e, s5, s6, s7, s8⟩ | ⟨q, o', rfl, s2, e, s4⟩
      · rw [hG1 k s1] at hbl; exact hm0.mine k sz l b s3 hbl
      · rw [hG1 k (hthere i k s1).1] at hbl
        cases o0 with
        | arr b0 sz0 l0 =>
          obtain ⟨b', l', rfl⟩ := s7.1 _ _ _ rfl
          cases e
          exact hm0.mine k sz l0 b s3 hbl
        | dead => cases s6
        | box l0 => cases o' <;> cases e
        | frz sz0 l0 => cases o' <;> cases e
      · rw [hG2] at hbl
        cases o' with
        | arr b0 sz0 l0 => cases e; exact Nat.le_trans hNs (hmc.mine _ sz l b s2 hbl)
        | _ => cases e
    · intro b hN hL
      have hb : b < w.heap.size := Nat.lt_of_lt_of_le hN hNs
      rw [hwsame b hb fun h => hL ((hm0.own b (hLl0 b h)).2 hN)]
      exact hm.frame b hN hL
  · rcases hsx with hA | hf
    · exact K1 (hBn hA) hGβ hx
    · exact K1 (fun _ h => h) hGβ (flat3 (B' := Bk fr (os1 ++ (los.drop keep.length).map (SO.ren (zJ keep os.length))) (gB g g' os.length keep.length) w') hx hf)
end Go.Proofs.Ytfjbclgbpdlkgaa

/- The evaluator S: calls of functions are sound, where the functions are. -/
namespace Go.Proofs.Ytfjbclgbpdlkgaa
open Go
set_option linter.unusedVariables false
set_option linter.unusedSimpArgs false
variable {P : Program} {T : Tab}
def FnOK (P : Program) (f : Nat) : Prop := ∃ fn b, P.funcs[f]? = some fn ∧ (fn.name == "runtime.NumGoroutine") = false ∧ fn.body = some b
def KOK1 (P : Program) (f : Nat) (K : List SV → List SO → Out) : Prop :=
  ∀ (args : List SV) (los los' : List SO) (r : SV), K args los = some (r, los') → FnOK P f ∧
    ∀ (A L : Nat → Prop) (g : Nat → Gh) (vals : List Value) (w : World), (∀ b, live los g b → L b) → Mem ⟨w.heap.size, A, L, w⟩ los g w → zU w (Bk ⟨w.heap.size, A, L, w⟩ los g w) g args vals →
      Calls P f vals.toArray w fun e w' => ∃ v g', e = .returned v ∧ Mem ⟨w.heap.size, A, L, w⟩ los' g' w' ∧ (∀ j, j < los.length → g j ≠ .no → g' j = g j) ∧
        RepV w' (Bk ⟨w.heap.size, A, L, w⟩ los' g' w') g' r v ∧ los.length ≤ los'.length
def KOK (P : Program) (K : Nat → List SV → List SO → Out) : Prop := ∀ f, KOK1 P f (K f)
theorem qf8 {w : World} {B : Nat → Prop} {g : Nat → Gh} {env : Env} {a : Act} (hs : ws w B g env a.tmps) (p : Operand × Nat) : RepV w B g (YV T env p) (a.eval p.1) := by
  obtain ⟨x, t⟩ := p
  unfold YV
  split
  · rename_i h
    simp only at h
    subst h
    unfold nilA
    split
    · split
      · exact .sl0
      · exact .dead
    · exact .dead
  · exact kf hs x
theorem qf9 {w : World} {B : Nat → Prop} {g : Nat → Gh} {env : Env} {a : Act} (hs : ws w B g env a.tmps) : ∀ (l : List Operand) (ts : List Nat), ts.length = l.length →
    zU w B g ((l.zip ts).map (YV T env)) (l.map a.eval) := by
  intro l ts h
  refine ⟨by simp [h], fun i x v h1 h2 => ?_⟩
  rw [List.getElem?_map] at h1 h2
  obtain ⟨p, hp, rfl⟩ := Option.map_eq_some_iff.1 h1
  obtain ⟨y, hy, rfl⟩ := Option.map_eq_some_iff.1 h2
  have := List.getElem?_zip_eq_some.1 hp
  rw [hy] at this
  have e : p.1 = y := (Option.some.inj this.1).symm
  rw [← e]
  exact qf8 hs p
theorem qga {keep : List Nat} {x y : SV} {args : List SV} {j : Nat} (hx : x ∈ args) (hy : y ∈ x.cells) (hj : y = .osl j ∨ ∃ lo hi, y = .vw j lo hi) (hk : ∀ i : Nat, keep[i]? ≠ some j) : j ∈ args.flatMap (kT keep) := by
  rw [List.mem_flatMap]
  refine ⟨x, hx, ?_⟩
  unfold kT
  rw [List.mem_flatMap]
  refine ⟨y, hy, ?_⟩
  rcases hj with rfl | ⟨lo, hi, rfl⟩
  · simp only
    split
    · rename_i i hi
      exact absurd (Zb hi) (hk i)
    · simp
  · simp
theorem Qq {os : List SO} {keep : List Nat} : ∀ {xs ys : List SV}, QX os keep xs = some ys → ∀ x, x ∈ xs → ∃ y, argV os keep x = some y
  | [], _, _, x, hx => by simp at hx
  | z :: zs, ys, h, x, hx => by
    simp only [QX] at h
    split at h
    · rename_i y ys' hy hys
      rcases List.mem_cons.1 hx with rfl | hx
      · exact ⟨y, hy⟩
      · exact Qq hys x hx
    · simp at h
theorem xf {os : List SO} {keep : List Nat} : ∀ {xs ys : List SV}, yO os keep xs = some ys → ∀ x, x ∈ xs → ∃ y, xQ os keep x = some y
  | [], _, _, x, hx => by simp at hx
  | z :: zs, ys, h, x, hx => by
    simp only [yO] at h
    split at h
    · rename_i y ys' hy hys
      rcases List.mem_cons.1 hx with rfl | hx
      · exact ⟨y, hy⟩
      · exact xf hys x hx
    · simp at h
theorem K3 {os : List SO} {keep : List Nat} {x y : SV} (h : argV os keep x = some y) : ∀ z, z ∈ x.cells → ∃ y, xQ os keep z = some y := by
  intro z hz
  unfold argV at h
  split at h
  · split at h
    · rename_i l ys hys
      exact xf hys z hz
    · simp at h
  · rename_i hna
    have e : x.cells = [x] := by cases x <;> first | rfl | exact absurd rfl (hna _)
    rw [e] at hz
    simp at hz
    subst hz
    exact ⟨y, h⟩
theorem Z5 : ∀ {keep : List Nat} {i j : Nat}, keep[i]? = some j → ∃ k, place keep j = some k
  | [], i, j, h => by simp at h
  | k :: ks, i, j, h => by
    simp only [place]
    split
    · exact ⟨_, rfl⟩
    · rename_i hne
      cases i with
      | zero => simp at h; exact absurd h hne
      | succ i =>
        obtain ⟨q, hq⟩ := Z5 (keep := ks) (i := i) (j := j) (by simpa using h)
        rw [hq]; exact ⟨_, rfl⟩
theorem qgb {os : List SO} {keep : List Nat} {args ys : List SV} (h : QX os keep args = some ys) {j : Nat} (hj : j ∈ args.flatMap (kT keep)) : ∀ i : Nat, keep[i]? ≠ some j := by
  intro i hi
  obtain ⟨k, hk⟩ := Z5 hi
  rw [List.mem_flatMap] at hj
  obtain ⟨x, hx, hj⟩ := hj
  obtain ⟨y, hy⟩ := Qq h x hx
  unfold kT at hj
  rw [List.mem_flatMap] at hj
  obtain ⟨z, hz, hj⟩ := hj
  obtain ⟨u, hu⟩ := K3 hy z hz
  split at hj
  · rename_i j'
    split at hj
    · simp at hj
    · rename_i hp
      simp at hj
      subst hj
      rw [hk] at hp; cases hp
  · rename_i j' lo hi'
    simp at hj
    subst hj
    simp only [xQ, hk] at hu
    cases hu
  · simp at hj
theorem qaJ : ∀ (js : List Nat) {os os1 : List SO}, freeze js os = some os1 → ∀ j, j ∈ js → (os.getD j .dead).own = true := by
  intro js
  induction js with
  | nil => intro os os1 h j hj; simp at hj
  | cons k ks ih =>
    intro os os1 h j hj
    simp only [freeze] at h
    split at h
    · rename_i sz l hk
      by_cases e : j = k
      · subst e; rw [List.getD_eq_getElem?_getD, hk]; rfl
      · have := ih h j (by simpa [e] using hj)
        rw [List.getD_eq_getElem?_getD, List.getElem?_set, if_neg (fun e' => e e'.symm)] at this
        rw [List.getD_eq_getElem?_getD]; exact this
    · rename_i sz l hk
      by_cases e : j = k
      · subst e; rw [List.getD_eq_getElem?_getD, hk]; rfl
      · exact ih h j (by simpa [e] using hj)
    · simp at h
theorem qgc {c : Cx} (hK : KOK P c.K) {fr : Fr} {os os1 : List SO} {g : Nat → Gh} {w : World} (hm : Mem fr os g w) {f : Nat} {args : List SV} {vals : List Value} {y : SV} (ha : zU w (Bk fr os g w) g args vals)
    (h : qn c os f args = some (y, os1)) : FnOK P f ∧ os.length ≤ os1.length ∧ Calls P f vals.toArray w fun e w' => ∃ v, e = .returned v ∧ Res fr os g w os1 y v w' := by
  unfold qn at h
  split at h
  · simp at h
  rename_i keep hkeep
  obtain ⟨hn, -, -⟩ := jt hkeep
  split at h
  · simp at h
  rename_i as has
  split at h
  rotate_left
  · simp at h
  rename_i hth
  split at h
  · simp at h
  rename_i r los hcall
  split at h
  · simp at h
  rename_i os0 hfrz
  split at h
  · simp at h
  rename_i os1' hgb
  split at h
  rotate_left
  · simp at h
  rename_i hown
  obtain ⟨rfl, rfl⟩ := Prod.mk.inj (Option.some.inj h)
  obtain ⟨hfn, hcalls⟩ := hK f as _ los r hcall
  have hll : (lent keep os).length = keep.length := by simp [lent, gcO]
  have hfz : ∃ os0', True ∧ freeze (args.flatMap (kT keep)) os = some os0' ∧ os0 = os0' ∨ (qh r || los.any SO.hasSl) = false ∧ os0 = os := by
    split at hfrz
    · exact ⟨os0, .inl ⟨trivial, hfrz, rfl⟩⟩
    · rename_i hc
      have hc' := eq_false_of_ne_true hc
      rw [Bool.or_eq_false_iff] at hc'
      exact ⟨os, .inr ⟨hc'.2, (Option.some.inj hfrz).symm⟩⟩
  have main : ∀ (A : Nat → Prop), Mem fr os0 g w → Grow fr os g w os0 g w → os0.length = os.length → (∀ i j : Nat, keep[i]? = some j → os0[j]? = os[j]?) → (∀ b, Bk fr os g w b → A b) →
      (∀ j, j ∈ args.flatMap (kT keep) → ∀ lt sz l b, os[j]? = some (.arr lt sz l) → (g j).block? = some b → A b) →
      ((∀ b, b < w.heap.size → A b → (b < fr.N → fr.A b) ∧ ¬ live os0 g b) ∨ (qh r || los.any SO.hasSl) = false) →
      os.length ≤ (os1' ++ (los.drop keep.length).map (SO.ren (zJ keep os.length))).length ∧ Calls P f vals.toArray w fun e w' => ∃ v, e = .returned v ∧ Res fr os g w (os1' ++ (los.drop keep.length).map (SO.ren (zJ keep os.length))) (qfV (zJ keep os.length) r) v w' := by
    intro A hm0 hgr hlen hsame hA hsn hsl
    have hlen1 : os1'.length = os.length := by
      obtain ⟨b1, -, -⟩ := xT _ keep los os0 os1' hn hgb
      rw [b1, hlen]
    refine ⟨by simp [hlen1], ?_⟩
    have hmem := qf5 hm hn hA
    have hargs := qcU hm hA args ha has (fun x hx z hz j hj hk => hsn j (qga hx hz hj hk))
    refine Calls.mono (hcalls A _ (gk g keep) vals w (fun b hb => hb) hmem hargs) ?_
    rintro e w' ⟨v, g', rfl, hmc, hg', hr, hle⟩
    have hle' : keep.length ≤ los.length := by
      have : (lent keep os).length ≤ los.length := hle
      rwa [hll] at this
    have hg'' : ∀ i, i < keep.length → gk g keep i ≠ .no → g' i = gk g keep i := fun i hi => hg' i (by
      have : i < (lent keep os).length := by rw [hll]; exact hi
      exact this)
    have hslb : (∀ b, b < w.heap.size → A b → (b < fr.N → fr.A b) ∧ ¬ live os0 g b) ∨ los.any SO.hasSl = false := hsl.imp_right fun h => by
      rw [Bool.or_eq_false_iff] at h; exact h.2
    have hslr : (∀ b, b < w.heap.size → A b → (b < fr.N → fr.A b) ∧ ¬ live os0 g b) ∨ qh r = false := hsl.imp_right fun h => by
      rw [Bool.or_eq_false_iff] at h; exact h.1
    obtain ⟨m, gr, rp⟩ := qf7 hm hn hm0 hlen hsame hth hmc hg'' hle' hgb hown hslb
    exact ⟨v, rfl, _, m, hgr.trans gr, rp r v hr hslr⟩
  obtain ⟨os0', ⟨hc, hf, rfl⟩ | ⟨hc, rfl⟩⟩ := hfz
  · obtain ⟨f1, f2, f3, f4, f5⟩ := qcV _ hm hf
    refine ⟨hfn, main (fun b => Bk fr os0 g w b) f1 f2 f3 (fun i j hi => ?_) f2.sub (fun j hj lt sz l b ho hb => ?_) (.inl fun b _ hb => hb.2)⟩
    · exact f4 j fun hj => qgb has hj i hi
    · refine ⟨(hm.own b ⟨j, _, ho, rfl, hb⟩).1, fun hN => ?_, fun hl => ?_⟩
      · -- an array that was frozen is the frame's own
        obtain ⟨sz', l', hz⟩ := f5 j hj
        have hlt : lt = false := by
          have := qaJ _ hf j hj
          rw [List.getD_eq_getElem?_getD, ho] at this
          cases lt
          · rfl
          · cases this
        subst hlt
        exact absurd hN (Nat.not_lt.2 (hm.mine j sz l b ho hb))
      · obtain ⟨k, o, hk, hkl, hkb⟩ := hl
        have hkn : k ∉ args.flatMap (kT keep) := fun hin => by
          obtain ⟨sz', l', hz⟩ := f5 k hin
          rw [hz] at hk; obtain rfl := Option.some.inj hk; cases hkl
        have hk' : os[k]? = some o := by rw [← f4 k hkn]; exact hk
        have := hm.inj k j o _ b hk' ho hkl rfl hkb hb
        subst this
        exact hkn hj
  · exact ⟨hfn, main (fun _ => True) hm (Grow.refl _ _ _ _) rfl (fun _ _ _ => rfl) (fun _ _ => trivial) (fun _ _ _ _ _ _ _ _ => trivial) (.inr hc)⟩
theorem qcW {c : Cx} (hK : KOK P c.K) {fr : Fr} {os os1 : List SO} {g : Nat → Gh} {w : World} (hm : Mem fr os g w) {env : Env} {a : Act} (hs : ws w (Bk fr os g w) g env a.tmps) {o : Oper} {f : Operand} {args : Array Operand} {ts : Array TypeId} {y : SV}
    (ho : o.op = .call { callee := .value f, args := args, argTypes := ts }) (hsz : ts.size = args.size) (h : wJ c os (ev env f) ((args.toList.zip ts.toList).map (YV c.T env)) = some (y, os1)) :
    OpOK P fr os g w os1 y o a ∧ os.length ≤ os1.length := by
  unfold wJ at h
  split at h
  · rename_i f' caps he
    have hf := kf hs f
    rw [he] at hf
    generalize hfv : a.eval f = fv at hf
    cases hf with
    | fn h1 h2 =>
      rename_i vs
      have ha : zU w (Bk fr os g w) g ((args.toList.zip ts.toList).map (YV c.T env) ++ caps) (args.toList.map a.eval ++ vs) :=
        (qf9 hs args.toList ts.toList (by simpa using hsz)).append ⟨h1, h2⟩
      obtain ⟨⟨fn, b, hfn, hname, hb⟩, hle, hcalls⟩ := qgc hK hm ha h
      refine ⟨?_, hle⟩
      intro next Q hn
      have hrun : (execOp a.eval o).run P w = .ok (.enter f' (args.toList.map a.eval ++ vs).toArray) w := by
        have e : args.map a.eval ++ vs.toArray = (args.toList.map a.eval ++ vs).toArray := by
          apply Array.toList_inj.1; simp
        have hname' : ¬ fn.name = "runtime.NumGoroutine" := by simpa using hname
        simp [execOp, ho, resolve, hfv, Deferred.ofValue, invoke, callFunc, hfn, hname', hb, e]
      unfold Oper.wp
      rw [hrun]
      refine Calls.mono hcalls ?_
      rintro e w' ⟨v, rfl, hres⟩
      exact hn v w' hres
  · simp at h
theorem callOK {c : Cx} (hK : KOK P c.K) : qhU P c :=
  fun fr os os1 g w env a o f args ts y hm hs ho hsz h => (qcW hK hm hs ho hsz h).1
end Go.Proofs.Ytfjbclgbpdlkgaa

/- The evaluator S: no operation takes an object away. -/
namespace Go.Proofs.Ytfjbclgbpdlkgaa
open Go
set_option linter.unusedVariables false
set_option linter.unusedSimpArgs false
variable {P : Program} {T : Tab}
theorem wG : ∀ (z : List ZK) (os : List SO), os.length ≤ (xF z os).2.length
  | [], os => Nat.le_refl _
  | .sl sz :: zs, os => by
    simp only [xF]
    have := wG zs (os ++ [.arr false sz []])
    simp at this; omega
  | .int _ :: zs, os => wG zs os
  | .bool :: zs, os => wG zs os
  | .str :: zs, os => wG zs os
  | .fn :: zs, os => wG zs os
  | .ptr :: zs, os => wG zs os
theorem xg {os os1 : List SO} {x y : SV} (h : km os x = some (y, os1)) : os.length = os1.length := by
  unfold km at h
  split at h
  · cases h; rfl
  · cases h; rfl
  · split at h
    · cases h; simp
    · cases h; rfl
    · cases h
  · split at h
    · split at h
      · cases h; simp
      · cases h
    · split at h
      · cases h; rfl
      · cases h
    · cases h
  · cases h
theorem qgd {os os1 : List SO} {x y : SV} (h : qhR os x = some (y, os1)) : os.length = os1.length := by
  unfold qhR at h
  split at h
  · exact xg h
  · cases h; rfl
theorem yQ : ∀ {l : List SV} {os os1 : List SO} {ys : List SV}, z8 l os = some (ys, os1) → os.length = os1.length
  | [], _, _, _, h => by simp [z8] at h; rw [h.2]
  | x :: xs, os, os1, ys, h => by
    simp only [z8] at h
    split at h
    · rename_i y os2 hy
      split at h
      · rename_i ys' os3 hys
        cases h
        exact (xg hy).trans (yQ hys)
      · cases h
    · cases h
theorem qcX {os os1 : List SO} {x y : SV} (h : YW os x = some (y, os1)) : os.length = os1.length := by
  unfold YW at h
  split at h
  · split at h
    · rename_i hys; cases h; exact yQ hys
    · cases h
  · exact xg h
theorem WV : ∀ {l : List SV} {os os1 : List SO} {ys : List SV}, QD l os = some (ys, os1) → os.length = os1.length
  | [], _, _, _, h => by simp [QD] at h; rw [h.2]
  | x :: xs, os, os1, ys, h => by
    simp only [QD] at h
    split at h
    · rename_i y os2 hy
      split at h
      · rename_i ys' os3 hys
        cases h
        exact (qcX hy).trans (WV hys)
      · cases h
    · cases h
theorem qaK {os os1 : List SO} {t : Nat} {p x : SV} (h : QW T os t p x = some os1) : os.length = os1.length := by
  unfold QW at h
  split at h
  · split at h
    · split at h
      · split at h
        · split at h
          · cases h; simp
          · cases h
        · cases h
      · split at h
        · rename_i hys
          have hl := yQ hys
          split at h
          · split at h
            · split at h
              · split at h
                · cases h; simp [hl]
                · cases h
              · cases h
            · cases h
          · cases h
        · cases h
      · cases h
    · cases h
  · cases h
theorem Z6 {fs : List (Nat × Nat)} : ∀ {ps : List (Nat × Option SV)} {os os1 : List SO} {r : List (Nat × SV)}, xb T fs ps os = some (r, os1) → os.length ≤ os1.length
  | [], _, _, _, h => by simp [xb] at h; rw [h.2]; exact Nat.le_refl _
  | (f, x) :: ps, os, os1, r, h => by
    simp only [xb] at h
    split at h
    · split at h
      · rename_i hy
        split at h
        · split at h
          · rename_i hps
            cases h
            exact Nat.le_trans (Q9 hy) (Z6 hps)
          · cases h
        · cases h
      · cases h
    · cases h
theorem op_len {c : Cx} {os os1 : List SO} {env : Env} {o : Oper} {y : SV}
    (hcall : ∀ (f : Operand) (args : Array Operand) (ts : Array TypeId), o.op = .call { callee := .value f, args := args, argTypes := ts } → ts.size = args.size → wJ c os (ev env f) ((args.toList.zip ts.toList).map (YV c.T env)) = some (y, os1) → os.length ≤ os1.length)
    (h : opS c env os o = some (y, os1)) : os.length ≤ os1.length := by
  have R : ∀ {x : Option SV}, qc x os = some (y, os1) → os.length ≤ os1.length := fun h => by rw [(kq h).2]; exact Nat.le_refl _
  unfold opS at h
  split at h
  · exact Q9 h
  · exact Q9 h
  · exact R h
  · unfold qD at h
    split at h
    · rename_i i hi
      cases h
      have := wG i.zero os
      simp; omega
    · cases h
  · unfold wt at h
    split at h
    · rename_i hy
      split at h
      · cases h; have := Q9 hy; simp; omega
      · cases h
    · cases h
  · unfold zL at h
    split at h
    · split at h
      · split at h
        · rename_i hp
          simp only at h
          split at h
          · cases h
            exact Nat.le_trans (Z6 hp) (wG _ _)
          · cases h
        · cases h
      · cases h
    · cases h
  · unfold qv at h
    split at h
    · split at h
      · split at h
        · split at h
          · rename_i hp
            split at h
            · cases h; have := WV hp; simp; omega
            · cases h
          · cases h
        · cases h
      · cases h
    · cases h
  · exact R h
  · unfold qp at h
    split at h
    · rename_i hz
      split at h
      · rename_i hd
        split at h
        · rename_i hs
          cases h
          have := qaK hs
          have := Q9 hz
          have := qgd hd
          omega
        · cases h
      · cases h
    · cases h
  · exact R h
  · exact R h
  · exact R h
  · unfold jf at h
    split at h
    · cases h; exact Nat.le_refl _
    · split at h
      · split at h
        · cases h; exact Nat.le_refl _
        · cases h
      · cases h
    · split at h
      · cases h; simp
      · cases h
    · cases h; exact Nat.le_refl _
    · cases h
  · unfold qax at h
    split at h
    · split at h
      · split at h
        · split at h
          · cases h; simp
          · cases h
        · cases h
      · cases h
    · cases h
  · exact R h
  · exact R h
  · exact R h
  · exact R h
  · exact R h
  · exact R h
  · exact R h
  · split at h
    · cases h; exact Nat.le_refl _
    · cases h
  · split at h
    · unfold xx at h
      split at h
      · unfold ze at h
        split at h
        · cases h; exact Nat.le_refl _
        · cases h
      · unfold zx at h
        split at h
        · split at h
          · split at h
            · cases h; simp
            · cases h
          · cases h
        · cases h
      · unfold qfU at h
        split at h
        · split at h
          · split at h
            · cases h; simp
            · cases h
          · cases h
        · split at h
          · split at h
            · cases h; simp
            · cases h
          · cases h
        · cases h
      · exact R h
      · exact R h
      · cases h
    · cases h
  · rename_i f args ts ho
    split at h
    · rename_i hsz
      exact hcall f args ts ho hsz h
    · cases h
  · cases h
theorem JC {c : Cx} (hT : TabOk P c.T) (hK : KOK P c.K) : WR P c := by
  intro fr os os1 g w env a o y hm hs h
  refine ⟨op_rep hT (callOK hK) hm hs h, op_len (fun f args ts ho hsz hc => ?_) h⟩
  exact (qcW hK hm hs ho hsz hc).2
end Go.Proofs.Ytfjbclgbpdlkgaa

/- The evaluator S: regions whose order is drawn. First: what an operation hangs on. -/
namespace Go.Proofs.Ytfjbclgbpdlkgaa
open Go
set_option linter.unusedVariables false
set_option linter.unusedSimpArgs false
variable {P : Program} {T : Tab}
theorem qcY {env env' : Env} {x : Operand} (h : ev env x = ev env' x) : evP env x = evP env' x := by
  unfold evP
  split
  · rfl
  · rw [h]
theorem qaL {env env' : Env} {p : Operand × Nat} (h : ev env p.1 = ev env' p.1) : YV T env p = YV T env' p := by
  unfold YV
  split
  · rfl
  · exact h
theorem yG {α β : Type} {f g : α → β} : ∀ (l : List α), (∀ x, x ∈ l → f x = g x) → l.map f = l.map g := fun l h => List.map_congr_left h
theorem qcZ {c : Cx} {env env' : Env} {os : List SO} {o : Oper} (h : ∀ x, x ∈ o.op.operands → ev env x = ev env' x) : opS c env os o = opS c env' os o := by
  obtain ⟨dst, op, type, pos, after, guard⟩ := o
  have hP : ∀ x, x ∈ op.operands → evP env x = evP env' x := fun x hx => qcY (h x hx)
  cases op <;> simp only [Op.operands] at h hP
  case move x => simp only [opS, hP x (by simp)]
  case assign x => simp only [opS, hP x (by simp)]
  case pick b x y => simp only [opS, h b (by simp), h x (by simp), h y (by simp)]
  case alloc t => rfl
  case box t x => simp only [opS, hP x (by simp)]
  case build t ps =>
    have : ps.toList.map (fun p => (p.1, evP env p.2)) = ps.toList.map (fun p => (p.1, evP env' p.2)) := yG _ fun p hp => by
      rw [hP p.2 (by simp only [List.mem_toArray, List.mem_map]; exact ⟨p, hp, rfl⟩)]
    simp only [opS, this]
  case buildSlice t n ps =>
    have : ps.toList.map (fun p => (p.1, ev env p.2)) = ps.toList.map (fun p => (p.1, ev env' p.2)) := yG _ fun p hp => by
      rw [h p.2 (by simp only [List.mem_toArray, List.mem_map]; exact ⟨p, hp, rfl⟩)]
    simp only [opS, this]
  case load t x => simp only [opS, h x (by simp)]
  case store t x y => simp only [opS, h x (by simp), hP y (by simp)]
  case nilCheck x => simp only [opS, h x (by simp)]
  case binOp b t x y z => simp only [opS, h x (by simp), h y (by simp)]
  case unOp u t x => simp only [opS, h x (by simp)]
  case convert s d x => simp only [opS, h x (by simp)]
  case makeSlice t x y => simp only [opS, h x (by simp), h y (by simp)]
  case slice t x lo hi mx =>
    cases mx with
    | some m =>
      cases lo with
      | some l => rfl
      | none =>
        cases hi with
        | none => rfl
        | some z => simp only [opS, h x (by simp), h z (by simp), h m (by simp)]
    | none =>
      have h1 : lo.map (ev env) = lo.map (ev env') := by
        cases lo with
        | none => rfl
        | some z => simp only [Option.map_some, h z (by simp)]
      have h2 : hi.map (ev env) = hi.map (ev env') := by
        cases hi with
        | none => rfl
        | some z => simp only [Option.map_some, h z (by simp)]
      simp only [opS, h x (by simp), h1, h2]
  case fieldAddr t x f => simp only [opS, h x (by simp)]
  case field t x f => simp only [opS, h x (by simp)]
  case indexAddr t x y => simp only [opS, h x (by simp), h y (by simp)]
  case index t x y => simp only [opS, h x (by simp), h y (by simp)]
  case extract x i => simp only [opS, h x (by simp)]
  case makeFunc fn first captured =>
    have : captured.toList.map (ev env) = captured.toList.map (ev env') := yG _ fun p hp => h p (by simp at hp; simp [hp])
    cases fn <;> simp only [opS, this]
  case call cl =>
    obtain ⟨callee, args, ats⟩ := cl
    cases callee with
    | invoke r m => rfl
    | builtin b =>
      have : args.toList.map (ev env) = args.toList.map (ev env') := yG _ fun p hp => h p (by simp at hp; simp [Call.operands, hp])
      simp only [opS, this]
    | value f =>
      have : (args.toList.zip ats.toList).map (YV c.T env) = (args.toList.zip ats.toList).map (YV c.T env') := yG _ fun p hp => qaL (h p.1 (by
        have := (List.of_mem_zip hp).1
        simp at this; simp [Call.operands, this]))
      simp only [opS, this, h f (by simp [Call.operands])]
  all_goals rfl
theorem xh (env : Env) (t : Nat) : ∀ (al : List Nat), t ∈ al → yN t (zB al env) = yN t env := by
  intro al
  induction al with
  | nil => intro h; cases h
  | cons x xs ih =>
    intro h
    simp only [zB, yN]
    split
    · rename_i e; rw [Nat.eq_of_beq_eq_true e]
    · rename_i e
      rcases List.mem_cons.1 h with rfl | h
      · rw [Nat.beq_refl] at e; cases e
      · exact ih h
theorem WW (env : Env) (t : Nat) : ∀ (al : List Nat), (t ∈ al ∧ yN t (zB al env) = yN t env) ∨ yN t (zB al env) = .dead := by
  intro al
  by_cases h : t ∈ al
  · exact .inl ⟨h, xh env t al h⟩
  · refine .inr ?_
    induction al with
    | nil => rfl
    | cons x xs ih =>
      simp only [zB, yN]
      split
      · rename_i e; rw [Nat.eq_of_beq_eq_true e] at h; simp at h
      · exact ih (fun hh => h (List.mem_cons_of_mem _ hh))
theorem qiW {env : Env} {al : List Nat} {x : Operand} (h : ∀ t, x = .tmp t → t ∈ al) : ev (zB al env) x = ev env x := by
  cases x with
  | tmp t => exact xh env t al (h t rfl)
  | const v => rfl
  | func f => rfl
  | global g => rfl
theorem qge {c : Cx} {ops : List Oper} {env : Env} {os : List SO} {o : Oper} : op1 c ops (zB (wD ops o) env) os o = op1 c ops env os o := by
  have hop : opS c (zB (wD ops o) env) os o = opS c env os o := qcZ fun x hx => qiW fun t e => by
    subst e
    unfold wD
    refine List.mem_append.2 (.inl (List.mem_filterMap.2 ⟨_, by simpa using hx, rfl⟩))
  unfold op1
  cases hg : o.guard with
  | none => exact hop
  | some p =>
    obtain ⟨j, want⟩ := p
    have hgv : Qo ops (zB (wD ops o) env) j = Qo ops env j := by
      unfold Qo
      cases hj : ops[j]? with
      | none => rfl
      | some q =>
        cases hd : q.dst with
        | none => simp only [hd]
        | some t =>
          simp only [hd]
          refine xh env t _ ?_
          unfold wD
          refine List.mem_append.2 (.inr ?_)
          simp [hg, hj, hd]
    simp only [hop, hgv]
theorem p_any {c : Cx} {env : Env} {os os1 : List SO} {o : Oper} {x : SV} (hc : cls c.T o.op = .p) (h : opS c env os o = some (x, os1)) :
    os1 = os ∧ ∀ os2, opS c env os2 o = some (x, os2) := by
  have R : ∀ {y : Option SV}, qc y os = some (x, os1) → os1 = os ∧ ∀ os2, qc y os2 = some (x, os2) := fun h => by
    obtain ⟨h1, h2⟩ := kq h
    exact ⟨h2, fun os2 => by rw [h1]; rfl⟩
  obtain ⟨dst, op, type, pos, after, guard⟩ := o
  have N : ∀ y : Operand, y ≠ .const (.slice none 0 0) → ∀ os, evN c.T type os (evP env y) = some (ev env y, os) := fun y hy os => by
    unfold evP
    split
    · exact absurd rfl hy
    · rfl
  cases op <;> simp only [opS] at h ⊢
  case move y =>
    have hy : y ≠ .const (.slice none 0 0) := fun e => by subst e; simp [cls] at hc
    rw [N y hy] at h; cases h
    exact ⟨rfl, fun os2 => N y hy os2⟩
  case assign y =>
    have hy : y ≠ .const (.slice none 0 0) := fun e => by subst e; simp [cls] at hc
    rw [N y hy] at h; cases h
    exact ⟨rfl, fun os2 => N y hy os2⟩
  case pick b y z => exact R h
  case nilCheck y => exact R h
  case binOp b t y z u => exact R h
  case unOp u t y => exact R h
  case fieldAddr t y f => exact R h
  case field t y f => exact R h
  case index t y z => exact R h
  case extract y i => exact R h
  case makeFunc fn first captured =>
    cases fn with
    | func f =>
      simp only at h ⊢
      split at h
      · rename_i hf; cases h; exact ⟨rfl, fun os2 => by first | rfl | simp [hf]⟩
      · cases h
    | _ => cases h
  case convert s d y =>
    simp only [cls] at hc
    split at hc
    · rename_i k k' h1 h2
      unfold jf at h ⊢
      simp only [h1, h2] at h ⊢
      split at h
      · rename_i e1 e2 e3; cases h; cases e1; cases e2; simp [e3]
      · rename_i e1 e2; cases e1
      · rename_i e1 e2; cases e1
      · rename_i e1 e2; cases e1
      · cases h
    · cases hc
  case call cl =>
    obtain ⟨callee, args, ats⟩ := cl
    cases callee with
    | builtin b =>
      simp only at h ⊢
      split at h
      · rename_i hsz
        cases b <;> simp [cls] at hc
        all_goals
          unfold xx at h ⊢
          split at h <;> first | (rename_i e1 e2; cases e1; done) | (cases h; done) | skip
          rename_i e2
          refine ⟨(R h).1, fun os2 => ?_⟩
          rw [if_pos hsz]
          exact (R h).2 os2
      · cases h
    | value f => simp [cls] at hc
    | invoke r m => simp [cls] at hc; try cases h
  all_goals first | (simp [cls] at hc; done) | (cases h; done)
end Go.Proofs.Ytfjbclgbpdlkgaa
