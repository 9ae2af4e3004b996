/- The evaluator S: what it gives from some amount of fuel on, the words for it. -/
import Derived.Test.YtjfegdlgepbjoaaSa
namespace Go.Proofs.Ytjfegdlgepbjoaa
open Go
set_option linter.unusedVariables false
set_option linter.unusedSimpArgs false

/-- From some amount of fuel on the answer is this one. -/
def Ex (A : Nat → Out) (x : SV) (os : List SO) : Prop := ∃ n0, ∀ n, n0 ≤ n → A n = some (x, os)
/-- From some amount of fuel on the answer is one and the same, and such a one. -/
def Ev (A : Nat → Out) (Q : SV → List SO → Prop) : Prop := ∃ x os, Q x os ∧ Ex A x os

theorem ev_eq {A B : Nat → Out} {Q} (h : ∀ n, A n = B n) (h2 : Ev B Q) : Ev A Q := by
  obtain ⟨x, os, hq, n0, h0⟩ := h2
  exact ⟨x, os, hq, n0, fun n hn => (h n).trans (h0 n hn)⟩

/-- The head of a loop: one unit of fuel less. -/
theorem ev_loop {L : Nat → Nat → Out} {B : Nat → Nat → Out} {c : Nat} {Q} (h : ∀ n m, L n (m + 1) = B n m) (h2 : Ev (fun n => B n (n + 1 - (c + 1))) Q) : Ev (fun n => L n (n + 1 - c)) Q := by
  obtain ⟨x, os, hq, n0, h0⟩ := h2
  refine ⟨x, os, hq, n0 + c, fun n hn => ?_⟩
  have : n + 1 - c = (n + 1 - (c + 1)) + 1 := by omega
  show L n (n + 1 - c) = _
  rw [this, h]
  exact h0 n (by omega)

theorem ev_fun {A B : Nat → Out} {Q} (h : ∀ n, A (n + 1) = B n) (h2 : Ev B Q) : Ev A Q := by
  obtain ⟨x, os, hq, n0, h0⟩ := h2
  refine ⟨x, os, hq, n0 + 1, fun n hn => ?_⟩
  obtain ⟨n, rfl⟩ : ∃ m, n = m + 1 := ⟨n - 1, by omega⟩
  rw [h]
  exact h0 n (by omega)

def zipE : List Nat → List SV → Env
  | t :: ts, x :: xs => (t, x) :: zipE ts xs
  | _, _ => []

end Go.Proofs.Ytjfegdlgepbjoaa
