/- The evaluator S: no operation takes an object away. -/
import Derived.Test.YtjfegdlgepbjoaaSr
namespace Go.Proofs.Ytjfegdlgepbjoaa
open Go
set_option linter.unusedVariables false
set_option linter.unusedSimpArgs false
variable {P : Program} {T : Tab}

theorem zeroS_len : ∀ (z : List ZK) (os : List SO), os.length ≤ (zeroS z os).2.length
  | [], os => Nat.le_refl _
  | .sl sz :: zs, os => by
    simp only [zeroS]
    have := zeroS_len zs (os ++ [.arr false sz []])
    simp at this; omega
  | .int _ :: zs, os => zeroS_len zs os
  | .bool :: zs, os => zeroS_len zs os
  | .str :: zs, os => zeroS_len zs os
  | .fn :: zs, os => zeroS_len zs os
  | .ptr :: zs, os => zeroS_len zs os

theorem pureCell_len {os os1 : List SO} {x y : SV} (h : pureCell os x = some (y, os1)) : os.length = os1.length := by
  unfold pureCell at h
  split at h
  · cases h; rfl
  · cases h; rfl
  · split at h
    · cases h; simp
    · cases h; rfl
    · cases h
  · cases h

theorem pureCells_len : ∀ {l : List SV} {os os1 : List SO} {ys : List SV}, pureCells l os = some (ys, os1) → os.length = os1.length
  | [], _, _, _, h => by simp [pureCells] at h; rw [h.2]
  | x :: xs, os, os1, ys, h => by
    simp only [pureCells] at h
    split at h
    · rename_i y os2 hy
      split at h
      · rename_i ys' os3 hys
        cases h
        exact (pureCell_len hy).trans (pureCells_len hys)
      · cases h
    · cases h

theorem pureS_len {os os1 : List SO} {x y : SV} (h : pureS os x = some (y, os1)) : os.length = os1.length := by
  unfold pureS at h
  split at h
  · split at h
    · rename_i hys; cases h; exact pureCells_len hys
    · cases h
  · exact pureCell_len h

theorem pureL_len : ∀ {l : List SV} {os os1 : List SO} {ys : List SV}, pureL l os = some (ys, os1) → os.length = os1.length
  | [], _, _, _, h => by simp [pureL] at h; rw [h.2]
  | x :: xs, os, os1, ys, h => by
    simp only [pureL] at h
    split at h
    · rename_i y os2 hy
      split at h
      · rename_i ys' os3 hys
        cases h
        exact (pureS_len hy).trans (pureL_len hys)
      · cases h
    · cases h

theorem storeS_len {os os1 : List SO} {t : Nat} {p x : SV} (h : storeS T os t p x = some os1) : os.length = os1.length := by
  unfold storeS at h
  split at h
  · split at h
    · split at h
      · split at h
        · split at h
          · cases h; simp
          · cases h
        · cases h
      · split at h
        · rename_i hys
          have hl := pureCells_len hys
          split at h
          · split at h
            · split at h
              · split at h
                · cases h; simp [hl]
                · cases h
              · cases h
            · cases h
          · cases h
        · cases h
      · cases h
    · cases h
  · cases h

theorem partsN_len {fs : List (Nat × Nat)} : ∀ {ps : List (Nat × Option SV)} {os os1 : List SO} {r : List (Nat × SV)}, partsN T fs ps os = some (r, os1) → os.length ≤ os1.length
  | [], _, _, _, h => by simp [partsN] at h; rw [h.2]; exact Nat.le_refl _
  | (f, x) :: ps, os, os1, r, h => by
    simp only [partsN] at h
    split at h
    · split at h
      · rename_i hy
        split at h
        · split at h
          · rename_i hps
            cases h
            exact Nat.le_trans (evN_len hy) (partsN_len hps)
          · cases h
        · cases h
      · cases h
    · cases h

theorem op_len {c : Cx} {os os1 : List SO} {env : Env} {o : Oper} {y : SV}
    (hcall : ∀ (f : Operand) (args : Array Operand) (ts : Array TypeId), o.op = .call { callee := .value f, args := args, argTypes := ts } → ts.size = args.size → calleeS c os (ev env f) ((args.toList.zip ts.toList).map (argO c.T env)) = some (y, os1) → os.length ≤ os1.length)
    (h : opS c env os o = some (y, os1)) : os.length ≤ os1.length := by
  have R : ∀ {x : Option SV}, ret1 x os = some (y, os1) → os.length ≤ os1.length := fun h => by rw [(ret1_eq h).2]; exact Nat.le_refl _
  unfold opS at h
  split at h
  · exact evN_len h
  · exact evN_len h
  · exact R h
  · unfold allocS at h
    split at h
    · rename_i i hi
      cases h
      have := zeroS_len i.zero os
      simp; omega
    · cases h
  · unfold boxS at h
    split at h
    · rename_i hy
      split at h
      · cases h; have := evN_len hy; simp; omega
      · cases h
    · cases h
  · unfold buildS at h
    split at h
    · split at h
      · split at h
        · rename_i hp
          simp only at h
          split at h
          · cases h
            exact Nat.le_trans (partsN_len hp) (zeroS_len _ _)
          · cases h
        · cases h
      · cases h
    · cases h
  · unfold buildSliceS at h
    split at h
    · split at h
      · split at h
        · split at h
          · rename_i hp
            split at h
            · cases h; have := pureL_len hp; simp; omega
            · cases h
          · cases h
        · cases h
      · cases h
    · cases h
  · exact R h
  · unfold storeO at h
    split at h
    · rename_i hz
      split at h
      · rename_i hs
        cases h
        have := storeS_len hs
        have := evN_len hz
        omega
      · cases h
    · cases h
  · exact R h
  · exact R h
  · exact R h
  · unfold convS at h
    split at h
    · cases h; exact Nat.le_refl _
    · split at h
      · split at h
        · cases h; exact Nat.le_refl _
        · cases h
      · cases h
    · split at h
      · cases h; simp
      · cases h
    · cases h; exact Nat.le_refl _
    · cases h
  · unfold makeS at h
    split at h
    · split at h
      · split at h
        · split at h
          · cases h; simp
          · cases h
        · cases h
      · cases h
    · cases h
  · exact R h
  · exact R h
  · exact R h
  · exact R h
  · exact R h
  · exact R h
  · exact R h
  · split at h
    · cases h; exact Nat.le_refl _
    · cases h
  · split at h
    · unfold builtinS at h
      split at h
      · unfold lenO at h
        split at h
        · cases h; exact Nat.le_refl _
        · cases h
      · unfold appendS at h
        split at h
        · split at h
          · split at h
            · cases h; simp
            · cases h
          · cases h
        · cases h
      · unfold copyS at h
        split at h
        · split at h
          · split at h
            · cases h; simp
            · cases h
          · cases h
        · split at h
          · split at h
            · cases h; simp
            · cases h
          · cases h
        · cases h
      · exact R h
      · exact R h
      · cases h
    · cases h
  · rename_i f args ts ho
    split at h
    · rename_i hsz
      exact hcall f args ts ho hsz h
    · cases h
  · cases h

theorem ops_ok {c : Cx} (hT : TabOk P c.T) (hK : KOK P c.K) : OpsOK P c := by
  intro fr os os1 g w env a o y hm hs h
  refine ⟨op_rep hT (callOK hK) hm hs h, op_len (fun f args ts ho hsz hc => ?_) h⟩
  exact (call_ok hK hm hs ho hsz hc).2

end Go.Proofs.Ytjfegdlgepbjoaa
