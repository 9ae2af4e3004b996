/- The evaluator S: more steps: storing into an element of an array of typed elements; nothing else. -/
import Derived.Test.YtjfegdlgepbjoaaTd
namespace Go.Proofs.Ytjfegdlgepbjoaa
open Go
set_option linter.unusedVariables false
set_option linter.unusedSimpArgs false

/-- Storing into an element (or a field of it). -/
theorem ev_sto {α : Type} [Inhabited α] {f : α → SV} {l : List α} {a : α} {T : Tab} {os os1 os2 : List SO} {t j sz es i off m : Nat} {b : Bool} {y : SV} {ys : List SV} {F : Nat → SV → List SO → Out} {Q}
    (hti : (T.ti t).map (·.size) = some sz) (hsz : Nat.blt 0 sz = true) (hy : Nat.beq y.cells.length sz = true) (hp : pureCells y.cells os = some (ys, os1)) (hj1 : os1[j]? = some (.arr b es (l.map f)))
    (hd : (dcells (f (nth l i))).map List.length = some m) (hm : Nat.ble (off + sz) m = true) (hys : setElem (f (nth l i)) off ys = f a) (hi : i < l.length)
    (hn : nf (some (.undef, os1.set j (.arr b es ((l.set i a).map f)))) = some (.undef, os2)) (h2 : Ev (fun n => F n .undef os2) Q) :
    Ev (fun n => bd (storeO T os t (.ap j i off) (some y)) (F n)) Q := by
  obtain ⟨q, hq, hqs⟩ := Option.map_eq_some_iff.1 hti
  obtain ⟨yc, hyc, hyl⟩ := Option.map_eq_some_iff.1 hd
  have hsz' : 0 < sz := by simpa using hsz
  have hy' : y.cells.length = sz := Nat.eq_of_beq_eq_true hy
  have hm' : off + sz ≤ m := by simpa using hm
  refine ev_bdx (x := .undef) (os := os1.set j (.arr b es ((l.set i a).map f))) ?_ ?_
  · have hg : (l.map f)[i]? = some (f (nth l i)) := by
      rw [List.getElem?_map, get_nth hi]; rfl
    have h1 : (l.map f).set i (f a) = (l.set i a).map f := by rw [List.map_set]
    simp only [storeO, evN, storeS, hq, hqs, hy', if_true, hp, hj1, hg, hyc]
    rw [if_pos ⟨by rw [hyl]; exact hm', hsz'⟩, hys, h1]
  · rw [nf_eq] at hn
    obtain ⟨-, rfl⟩ := Prod.mk.inj (Option.some.inj hn)
    exact h2

/-- Loading (a field of) an element of an array of typed elements. -/
theorem ld_el {α : Type} [Inhabited α] {f : α → SV} {l : List α} {T : Tab} {os : List SO} {t j es i off : Nat} {b : Bool} (hj : os[j]? = some (.arr b es (l.map f))) (hi : i < l.length) :
    loadS T os t (.ap j i off) = loadS T os t (.el (f (nth l i)) off) := by
  have hg : (l.map f)[i]? = some (f (nth l i)) := by
    rw [List.getElem?_map, get_nth hi]; rfl
  simp only [loadS, placeCells, hj, hg]
theorem ev_ldm {α : Type} [Inhabited α] {f : α → SV} {l : List α} {T : Tab} {os os' : List SO} {t j es i off : Nat} {b : Bool} {x : SV} {F : Nat → SV → List SO → Out} {Q} (hj : os[j]? = some (.arr b es (l.map f))) (hi : i < l.length)
    (h : nfB (ret1 (loadS T os t (.el (f (nth l i)) off)) os) = some (x, os')) (h2 : Ev (fun n => F n x os') Q) : Ev (fun n => bd (ret1 (loadS T os t (.ap j i off)) os) (F n)) Q := by
  rw [nfB_eq] at h
  refine ev_bdx (x := x) (os := os') ?_ h2
  rw [ld_el hj hi, h]
theorem ev_ldmB {α : Type} [Inhabited α] {f : α → SV} {l : List α} {T : Tab} {os os' : List SO} {t j es i off : Nat} {b c : Bool} {F : Nat → SV → List SO → Out} {Q} (hj : os[j]? = some (.arr b es (l.map f))) (hi : i < l.length)
    (h : nf (ret1 (loadS T os t (.el (f (nth l i)) off)) os) = some (.v (.bool c), os')) (h1 : c = true → Ev (fun n => F n (.v (.bool true)) os') Q) (h2 : c = false → Ev (fun n => F n (.v (.bool false)) os') Q) : Ev (fun n => bd (ret1 (loadS T os t (.ap j i off)) os) (F n)) Q := by
  rw [nf_eq] at h
  cases c
  · refine ev_bdx (x := .v (.bool false)) (os := os') ?_ (h2 rfl)
    rw [ld_el hj hi, h]
  · refine ev_bdx (x := .v (.bool true)) (os := os') ?_ (h1 rfl)
    rw [ld_el hj hi, h]

/-- The length of an array that is not written any more. -/
theorem ev_lenfm {α : Type} {T : Tab} {t : Nat} {sz j : Nat} {f : α → SV} {l : List α} {os : List SO} {F : Nat → SV → List SO → Out} {Q} (hj : os[j]? = some (.frz sz (l.map f))) (hu : (slSize T t).isSome = true) (h2 : Ev (fun n => F n (iI (l.length : Int)) os) Q) :
    Ev (fun n => bd (lenO T t os (.osl j)) (F n)) Q := by
  obtain ⟨s, hs⟩ := Option.isSome_iff_exists.1 hu
  obtain ⟨e, q, hu, -⟩ := slSize_spec hs
  refine ev_bdx (x := iI (l.length : Int)) (os := os) ?_ h2
  simp [lenO, lenS, hu, elems, hj]

/-- Elements whose place is a natural number. -/
theorem ev_idxn {α : Type} [Inhabited α] {T : Tab} {t : Nat} {enc : α → SV} {l : List α} {sz i : Nat} {os : List SO} {F : Nat → SV → List SO → Out} {Q}
    (hu : slSize T t = some sz) (h0 : i < l.length) (h2 : Ev (fun n => F n (.el (enc (nth l i)) 0) os) Q) :
    Ev (fun n => bd (ret1 (indexAddrS T os t (.sl sz (l.map enc)) (.v (.int .i64 (i : Int)))) os) (F n)) Q :=
  ev_idx hu ⟨by omega, by omega⟩ h2
theorem ev_idxon {T : Tab} {os : List SO} {t j sz : Nat} {b : Bool} {l : List SV} {i : Nat} {F : Nat → SV → List SO → Out} {Q} (hj : os[j]? = some (.arr b sz l)) (hu : slSize T t = some sz) (h0 : i < l.length) (h2 : Ev (fun n => F n (.ap j i 0) os) Q) :
    Ev (fun n => bd (ret1 (indexAddrS T os t (.osl j) (.v (.int .i64 (i : Int)))) os) (F n)) Q :=
  ev_idxo hj hu ⟨by omega, by omega⟩ h2

theorem ev_idxf {α : Type} [Inhabited α] {T : Tab} {t : Nat} {enc : α → SV} {l : List α} {sz j : Nat} {i : Int} {os : List SO} {F : Nat → SV → List SO → Out} {Q}
    (hj : os[j]? = some (.frz sz (l.map enc))) (hu : slSize T t = some sz) (h0 : 0 ≤ i ∧ i < (l.length : Int)) (h2 : Ev (fun n => F n (.el (enc (nth l i.toNat)) 0) os) Q) :
    Ev (fun n => bd (ret1 (indexAddrS T os t (.osl j) (.v (.int .i64 i))) os) (F n)) Q := by
  obtain ⟨e, q, hu, hq, hs⟩ := slSize_spec hu
  refine ev_bdx (x := .el (enc (nth l i.toNat)) 0) (os := os) ?_ h2
  have hg : (l.map enc)[i.toNat]? = some (enc (nth l i.toNat)) := by
    rw [List.getElem?_map, get_nth (by omega)]; rfl
  simp [indexAddrS, hu, hq, hs, hj, h0.1, elS, hg, ret1]
theorem ev_idxfn {α : Type} [Inhabited α] {T : Tab} {t : Nat} {enc : α → SV} {l : List α} {sz j i : Nat} {os : List SO} {F : Nat → SV → List SO → Out} {Q}
    (hj : os[j]? = some (.frz sz (l.map enc))) (hu : slSize T t = some sz) (h0 : i < l.length) (h2 : Ev (fun n => F n (.el (enc (nth l i)) 0) os) Q) :
    Ev (fun n => bd (ret1 (indexAddrS T os t (.osl j) (.v (.int .i64 (i : Int)))) os) (F n)) Q :=
  ev_idxf hj hu ⟨by omega, by omega⟩ h2

/-- Parts of arrays appended. -/
theorem ev_appv2 {α : Type} {f : α → SV} {l' : List α} {T : Tab} {os os' : List SO} {t j j' lo hi sz by_ : Nat} {b b' : Bool} {l : List SV} {y : SV} {F : Nat → SV → List SO → Out} {Q} (ht : slBytes T t = some (sz, by_)) (hj : os[j]? = some (.arr b sz l)) (hj' : os[j']? = some (.arr b' sz (l'.map f))) (hb : Nat.blt 0 by_ = true)
    (hn : nf (some (.osl os.length, os.set j .dead ++ [.arr b sz (l ++ ((l'.take hi).drop lo).map f)])) = some (y, os')) (hlo : lo ≤ hi ∧ hi ≤ l'.length) (hle : by_ * (l.length + l'.length) ≤ 140737488355328) (h2 : Ev (fun n => F n y os') Q) :
    Ev (fun n => bd (appendS T os t t (.osl j) (.vw j' lo hi)) (F n)) Q := by
  obtain ⟨e, q, hu, hq, h3, h4⟩ := slBytes_spec ht
  dsimp only at h3 h4
  refine ev_bdx (x := .osl os.length) (os := os.set j .dead ++ [.arr b sz (l ++ ((l'.take hi).drop lo).map f)]) ?_ ?_
  · simp only [Nat.blt_eq] at hb
    have he : elems os (.vw j' lo hi) = some (sz, ((l'.take hi).drop lo).map f) := by
      have h9 : lo ≤ hi ∧ hi ≤ (l'.map f).length := by rw [List.length_map]; exact hlo
      simp only [elems, hj']
      rw [if_pos h9, List.map_drop, List.map_take]
    have hl : (((l'.take hi).drop lo).map f).length ≤ l'.length := by simp only [List.length_map, List.length_drop, List.length_take]; omega
    have : q.bytes * (l.length + (((l'.take hi).drop lo).map f).length) ≤ 2 ^ 47 := by
      rw [h4]
      exact Nat.le_trans (Nat.mul_le_mul_left _ (Nat.add_le_add_left hl _)) hle
    simp only [appendS, hu, hq, hj, he, h3]
    rw [if_pos ⟨trivial, trivial, this, by rw [h4]; exact hb⟩]
  · rw [nf_eq] at hn
    obtain ⟨rfl, rfl⟩ := Prod.mk.inj (Option.some.inj hn)
    exact h2

/-- A slice that is made: zero elements. -/
theorem ev_mk {α : Type} {f : α → SV} {z : α} {T : Tab} {os os' : List SO} {t sz by_ : Nat} {n : Int} {y : SV} {F : Nat → SV → List SO → Out} {Q} (ht : slBytes T t = some (sz, by_)) (hz : (match T.und t with | some (.slice e) => (match T.ti e with | some i => pack i.agg (zeroP i.zero) | none => none) | _ => none) = some (f z))
    (hn : nf (some (.osl os.length, os ++ [.arr false sz ((List.replicate n.toNat z).map f)])) = some (y, os')) (h0 : 0 ≤ n ∧ by_ * n ≤ 140737488355328 ∧ n < 9223372036854775808) (h2 : Ev (fun n => F n y os') Q) :
    Ev (fun m => bd (makeS T os t (.v (.int .i64 n)) (.v (.int .i64 n))) (F m)) Q := by
  obtain ⟨e, q, hu, hq, h3, h4⟩ := slBytes_spec ht
  dsimp only at h3 h4
  rw [hu] at hz
  dsimp only at hz
  rw [hq] at hz
  dsimp only at hz
  refine ev_bdx (x := .osl os.length) (os := os ++ [.arr false sz ((List.replicate n.toNat z).map f)]) ?_ ?_
  · simp only [makeS, hu, hq, h3]
    rw [if_pos ⟨h0.1, Int.le_refl _, by rw [h4]; exact h0.2.1, h0.2.2⟩, hz]
    simp only [List.map_replicate]
  · rw [nf_eq] at hn
    obtain ⟨rfl, rfl⟩ := Prod.mk.inj (Option.some.inj hn)
    exact h2

/-- A function value that is called. -/
theorem ev_callee {c : Nat → Cx} {os : List SO} {f : Nat} {caps args : List SV} {F : Nat → SV → List SO → Out} {Q} (h : Ev (fun n => bd (callS (c n) os f (args ++ caps)) (F n)) Q) : Ev (fun n => bd (calleeS (c n) os (.fn f caps) args) (F n)) Q := h

/-- What holds of a called function's answer, of one value. -/
theorem Ev.of {A : Nat → Out} {x os} {Q : SV → List SO → Prop} (h : Ex A x os) (hq : Q x os) : Ev A Q := ⟨x, os, hq, h⟩

end Go.Proofs.Ytjfegdlgepbjoaa
