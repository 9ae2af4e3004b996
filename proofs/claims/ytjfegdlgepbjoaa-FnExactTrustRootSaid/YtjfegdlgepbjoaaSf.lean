/- The evaluator S: arithmetic, comparisons, conversions that make nothing. -/
import Derived.Test.YtjfegdlgepbjoaaSe
namespace Go.Proofs.Ytjfegdlgepbjoaa
open Go
set_option linter.unusedVariables false
set_option linter.unusedSimpArgs false
variable {P : Program} {T : Tab}

theorem v_rep {w : World} {B : Nat → Prop} {g : Nat → Gh} {x v : Value} (h : RepV w B g (.v x) v) : v = x := by cases h; rfl

theorem run_add {w : World} {t : Nat} {k : IntKind} {a b : Int} : (binOp .add t (.int k a) (.int k b)).run P w = .ok (.int k (k.wrap (a + b))) w := by
  rw [binOp_add]; simp [Op.intArith]

theorem bin_rep (hT : TabOk P T) {w : World} {B : Nat → Prop} {g : Nat → Gh} {op : BinOp} {t : Nat} {x y r : SV} {xv yv : Value} {xo yo : Operand}
    (hx : RepV w B g x xv) (hy : RepV w B g y yv) (h : binS T op t x y = some r) :
    ∃ v, (do eqGuard op t xo yo xv yv; binOp op t xv yv : Sem Value).run P w = .ok v w ∧ RepV w B g r v := by
  unfold binS at h
  split at h
  · rename_i k a k' b
    obtain rfl := v_rep hx
    obtain rfl := v_rep hy
    have key : ∀ op, (op = .shl → False) → (op = .shr → False) → (if k = k' then intBin op k a b else none) = some r →
        ∃ v, (do eqGuard op t xo yo (.int k a) (.int k' b); binOp op t (.int k a) (.int k' b) : Sem Value).run P w = .ok v w ∧ RepV w B g r v := by
      intro op _ _ h
      split at h
      · rename_i hk
        subst hk
        cases op <;> simp only [intBin] at h <;> first
          | (simp at h; done)
          | (split at h <;> first
              | (simp at h; done)
              | (rename_i hb; obtain rfl := Option.some.inj h; exact ⟨_, by simp [eqGuard_at_int, binOp, Op.intDiv, hb], .v rfl⟩))
          | (obtain rfl := Option.some.inj h; exact ⟨_, by simp [eqGuard_at_int, binOp, Op.intArith, Op.intCmp, Op.intBits], .v rfl⟩)
      · simp at h
    split at h
    · simp at h
    · split at h
      · simp at h
      · rename_i hb
        obtain rfl := Option.some.inj h
        exact ⟨_, by simp [eqGuard_at_int, binOp, Op.shift, hb], .v rfl⟩
    · rename_i h1 h2
      exact key op h1 h2 h
  · rename_i a b
    obtain rfl := v_rep hx
    obtain rfl := v_rep hy
    unfold strBin at h
    split at h
    · split at h
      · simp at h
      · rename_i hl
        obtain rfl := Option.some.inj h
        refine ⟨.string (a ++ b), ?_, .v rfl⟩
        simp only [eqGuard_add, binOp, Op.stringOp, Sem.run_bind, Sem.run_pure, Result.andThen_ok]
        rw [if_neg hl]; rfl
    · obtain rfl := Option.some.inj h
      exact ⟨_, by simp [eqGuard_at_string, binOp, Op.stringOp], .v rfl⟩
    · obtain rfl := Option.some.inj h
      exact ⟨_, by simp [eqGuard_at_string, binOp, Op.stringOp], .v rfl⟩
    · simp at h
  · rename_i a b
    obtain rfl := v_rep hx
    obtain rfl := v_rep hy
    split at h
    · rename_i hu
      obtain rfl := Option.some.inj h
      exact ⟨_, by simp [eqGuard_at_bool, run_eql_bool _ _ _ _ (hT.bool t hu)], .v rfl⟩
    · rename_i hu
      obtain rfl := Option.some.inj h
      exact ⟨_, by simp [eqGuard_at_bool, run_neq_bool _ _ _ _ (hT.bool t hu)], .v rfl⟩
    · simp at h
  · rename_i a b
    cases hx with
    | ag a1 a2 a3 =>
      rename_i va
      cases hy with
      | ag b1 b2 b3 =>
        rename_i vb
        have conv : ∀ (a b : List SV) (va vb : List Value) (r : Bool), RepL w B g a va → RepL w B g b vb → sameInts a b = some r → intsEq va vb = some r := by
          intro a
          induction a with
          | nil =>
            intro b va vb r ha hb h
            cases b with
            | nil =>
              have := ha.1; have := hb.1
              cases va <;> simp at *
              cases vb <;> simp at *
              simpa [sameInts, intsEq] using h
            | cons => simp [sameInts] at h
          | cons x a ih =>
            intro b va vb r ha hb h
            cases b with
            | nil => cases x <;> simp [sameInts] at h
            | cons y b =>
              obtain ⟨u, va', rfl, hu, ha'⟩ := ha.uncons
              obtain ⟨u', vb', rfl, hu', hb'⟩ := hb.uncons
              unfold sameInts at h
              split at h
              · simp_all
              · rename_i k p xs k' q ys e1 e2
                cases e1; cases e2
                obtain rfl := v_rep hu
                obtain rfl := v_rep hu'
                split at h
                · rename_i hk
                  subst hk
                  split at h
                  · rename_i r' hr'
                    have := ih b va' vb' r' ha' hb' hr'
                    simpa [intsEq, this] using h
                  · simp at h
                · simp at h
              · simp at h
        split at h
        · rename_i fs i hu hi
          obtain ⟨e1, e2⟩ := hT.eqs t fs i hu hi
          split at h
          · rename_i hz
            split at h
            · rename_i r' hr'
              obtain rfl := Option.some.inj h
              have := e2 va vb r' w (conv a b va vb r' ⟨a1, a2⟩ ⟨b1, b2⟩ hr') (by rw [← a1]; exact hz)
              exact ⟨.bool r', by simp [eqGuard, e1, binOp, this], .v rfl⟩
            · simp at h
          · simp at h
        · rename_i fs i hu hi
          obtain ⟨e1, e2⟩ := hT.eqs t fs i hu hi
          split at h
          · rename_i hz
            split at h
            · rename_i r' hr'
              obtain rfl := Option.some.inj h
              have := e2 va vb r' w (conv a b va vb r' ⟨a1, a2⟩ ⟨b1, b2⟩ hr') (by rw [← a1]; exact hz)
              exact ⟨.bool (!r'), by simp [eqGuard, e1, binOp, this], .v rfl⟩
            · simp at h
          · simp at h
        · simp at h
  · simp at h

theorem un_rep {w : World} {B : Nat → Prop} {g : Nat → Gh} {op : UnOp} {x r : SV} {xv : Value} (hx : RepV w B g x xv) (h : unS op x = some r) :
    ∃ v, (Op.unary op xv).run P w = .ok v w ∧ RepV w B g r v := by
  unfold unS at h
  split at h
  · obtain rfl := Option.some.inj h; obtain rfl := v_rep hx; exact ⟨_, rfl, .v rfl⟩
  · obtain rfl := Option.some.inj h; obtain rfl := v_rep hx; exact ⟨_, rfl, .v rfl⟩
  · simp at h

theorem elems_rep {fr : Fr} {os : List SO} {g : Nat → Gh} {w : World} (hm : Mem fr os g w) {x : SV} {xv : Value} {sz : Nat} {l : List SV}
    (hx : RepV w (Bk fr os g w) g x xv) (h : elems os x = some (sz, l)) :
    ∃ a c, xv = .slice a l.length c ∧ l.length ≤ c ∧ (l = [] ∨ ∃ b o vs, a = some ⟨b, o, none⟩ ∧ RepL w (Bk fr os g w) G0 l vs ∧ (∀ v : Value, v ∈ vs → ElOK sz v) ∧ CellsAt w b o (flatV vs)) := by
  have part : ∀ {l : List SV} {vs : List Value} {b : Nat} {lo hi : Nat}, RepL w (Bk fr os g w) G0 l vs → (∀ v : Value, v ∈ vs → ElOK sz v) → CellsAt w b 0 (flatV vs) →
      RepL w (Bk fr os g w) G0 ((l.take hi).drop lo) ((vs.take hi).drop lo) ∧ (∀ v : Value, v ∈ (vs.take hi).drop lo → ElOK sz v) ∧ CellsAt w b (lo * sz) (flatV ((vs.take hi).drop lo)) := by
    intro l vs b lo hi h1 h2 h3
    refine ⟨(h1.take hi).drop lo, fun v hv => h2 v (List.mem_of_mem_take (List.mem_of_mem_drop hv)), ?_⟩
    have := (h3.take (hi * sz)).drop (lo * sz)
    rw [flatV_take h2, flatV_drop (fun v hv => h2 v (List.mem_of_mem_take hv))] at this
    simpa using this
  unfold elems at h
  split at h
  · obtain ⟨rfl, rfl⟩ := Prod.mk.inj (Option.some.inj h)
    cases hx with
    | sl0 => exact ⟨_, _, rfl, Nat.zero_le _, .inl rfl⟩
    | sl h1 h2 h3 h4 h5 h6 => exact ⟨_, _, rfl, h6, .inr ⟨_, _, _, rfl, ⟨h1, h2⟩, h3, h4⟩⟩
  · rename_i j
    split at h
    · rename_i lt sz' l' hj
      obtain ⟨rfl, rfl⟩ := Prod.mk.inj (Option.some.inj h)
      rcases hm.objs _ _ hj with ⟨rfl, hn⟩ | ⟨b, cap, vs, e1, e2, e3, e4, e5, e6⟩
      · cases hx with
        | osl0 => exact ⟨_, _, rfl, Nat.le_refl _, .inl rfl⟩
        | osl hg => rw [hn] at hg; cases hg
      · cases hx with
        | osl0 hg => rw [e1] at hg; cases hg
        | osl hg => rw [e1] at hg; cases hg; exact ⟨_, _, rfl, e2, .inr ⟨_, _, _, rfl, e3, e4, e5⟩⟩
    · rename_i sz' l' hj
      obtain ⟨rfl, rfl⟩ := Prod.mk.inj (Option.some.inj h)
      rcases hm.objs _ _ hj with ⟨rfl, hn⟩ | ⟨b, cap, vs, e1, e2, e3, e4, e5, e6⟩
      · cases hx with
        | osl0 => exact ⟨_, _, rfl, Nat.le_refl _, .inl rfl⟩
        | osl hg => rw [hn] at hg; cases hg
      · cases hx with
        | osl0 hg => rw [e1] at hg; cases hg
        | osl hg => rw [e1] at hg; cases hg; exact ⟨_, _, rfl, e2, .inr ⟨_, _, _, rfl, e4, e5, e6⟩⟩
    · simp at h
  · rename_i j lo hi
    split at h
    · rename_i lt sz' l' hj
      split at h
      · rename_i hc
        obtain ⟨rfl, rfl⟩ := Prod.mk.inj (Option.some.inj h)
        have hlen : ((l'.take hi).drop lo).length = hi - lo := by simp; omega
        rw [hlen]
        cases hx with
        | vw0 => exact ⟨_, _, by rw [Nat.sub_self], by omega, .inl (by rw [← List.length_eq_zero_iff, hlen]; omega)⟩
        | vw hg a1 a2 a3 =>
          rcases hm.objs _ _ hj with ⟨rfl, hn⟩ | ⟨b, cap, vs, e1, e2, e3, e4, e5, e6⟩
          · rw [hn] at hg; cases hg
          · rw [e1] at hg
            cases hg
            obtain ⟨p1, p2, p3⟩ := part (lo := lo) (hi := hi) e3 e4 e5
            exact ⟨_, _, rfl, a3, .inr ⟨_, _, _, rfl, p1, p2, p3⟩⟩
      · simp at h
    · rename_i sz' l' hj
      split at h
      · rename_i hc
        obtain ⟨rfl, rfl⟩ := Prod.mk.inj (Option.some.inj h)
        have hlen : ((l'.take hi).drop lo).length = hi - lo := by simp; omega
        rw [hlen]
        cases hx with
        | vw0 => exact ⟨_, _, by rw [Nat.sub_self], by omega, .inl (by rw [← List.length_eq_zero_iff, hlen]; omega)⟩
        | vw hg a1 a2 a3 =>
          rcases hm.objs _ _ hj with ⟨rfl, hn⟩ | ⟨b, cap, vs, e1, e2, e3, e4, e5, e6⟩
          · rw [hn] at hg; cases hg
          · rw [e1] at hg
            cases hg
            obtain ⟨p1, p2, p3⟩ := part (lo := lo) (hi := hi) e4 e5 e6
            exact ⟨_, _, rfl, a3, .inr ⟨_, _, _, rfl, p1, p2, p3⟩⟩
      · simp at h
    · simp at h
  · simp at h

end Go.Proofs.Ytjfegdlgepbjoaa
