/- The evaluator S: from S's answer to what is asked of a law that takes bytes. -/
import Derived.Test.YtjfegdlgepbjoaaSz
import Derived.Test.YtjfegdlgepbjoaaTd
import Derived.Below
import Derived.WalkKit
import Derived.SizedLaws
import Derived.ChangeSlices
namespace Go.Proofs.Ytjfegdlgepbjoaa
open Go Go.RowKit
set_option linter.unusedVariables false
set_option linter.unusedSimpArgs false
variable {P : Program}

def IsRow (k : IntKind) (w : World) (a : Option Addr) (len cap : Nat) (zs : List Int) : Prop :=
  (a = none ∧ len = 0 ∧ cap = 0 ∧ zs = []) ∨
  ∃ x, a = some x ∧ len ≤ cap ∧ cap ≤ maxLen ∧ zs.length = cap ∧ (∀ i, i < zs.length → w.cell? (x.add i) = some (.int k (zs.getD i 0))) ∧ ∀ n ∈ zs, (Lit.int k n).wf = true

theorem mem_none (w : World) (A L : Nat → Prop) : Mem ⟨w.heap.size, A, L, w⟩ [] G0 w where
  objs j o h := by simp at h
  fresh _ _ := rfl
  inj i j oi oj b h := by simp at h
  own b h := by obtain ⟨j, o, h, _⟩ := h; simp at h
  mine j sz l b h := by simp at h
  frame _ _ _ := rfl
  size := Nat.le_refl _
  out := SameOut.refl _

theorem flat_ints : ∀ (l : List Int), flatV (l.map fun x => Value.int .u8 x) = l.map fun x => Value.int .u8 x
  | [] => rfl
  | x :: l => by
    have := flat_ints l
    simp only [flatV, List.map_cons, List.flatMap_cons] at this ⊢
    rw [this]; rfl

theorem row_rep {w : World} {B : Nat → Prop} {g : Nat → Gh} {a : Option Addr} {len cap : Nat} {zs : List Int} (h : IsRow .u8 w a len cap zs) (hB : ∀ b, b < w.heap.size → B b) :
    RepV w B g (.sl 1 ((zs.take len).map bI)) (.slice a len cap) := by
  rcases h with ⟨rfl, rfl, rfl, rfl⟩ | ⟨x, rfl, h1, h2, h3, h4, h5⟩
  · exact .sl0
  · cases len with
    | zero => exact .sl0
    | succ len =>
      have h0 := h4 0 (by omega)
      have hsp : x.spot = none ∧ x.block < w.heap.size := by
        simp only [Addr.add, if_true, World.cell?] at h0
        split at h0
        · rename_i c t fz hc
          refine ⟨?_, ?_⟩
          · cases hs : x.spot with
            | none => rfl
            | some s => rw [hs] at h0; simp at h0
          · exact (Array.getElem?_eq_some_iff.1 hc).1
        · cases h0
      obtain ⟨b, o, sp⟩ := x
      obtain ⟨rfl, hb⟩ := hsp
      have hlen : ((zs.take (len + 1)).map bI).length = len + 1 := by simp; omega
      have key : RepV w B g (.sl 1 ((zs.take (len + 1)).map bI)) (.slice (some ⟨b, o, none⟩) ((zs.take (len + 1)).map bI).length cap) := by
        refine .sl (vs := (zs.take (len + 1)).map fun x => Value.int .u8 x) (by simp) (fun i x v hx hv => ?_) (fun v hv => ?_) ?_ (hB b hb) (by rw [hlen]; exact h1)
        · rw [List.getElem?_map] at hx hv
          obtain ⟨y, hy, rfl⟩ := Option.map_eq_some_iff.1 hx
          rw [hy] at hv
          obtain rfl := Option.some.inj hv
          exact .v rfl
        · obtain ⟨y, _, rfl⟩ := List.mem_map.1 hv
          exact ⟨rfl, fun c hc => by simp [Value.cells] at hc; subst hc; rfl⟩
        · rw [flat_ints]
          intro k v hk
          rw [List.getElem?_map] at hk
          obtain ⟨y, hy, rfl⟩ := Option.map_eq_some_iff.1 hk
          rw [List.getElem?_take] at hy
          split at hy
          · have hkl := lt_of_getElem? hy
            have := h4 k hkl
            rw [List.getD_eq_getElem?_getD, hy] at this
            rw [show (some y).getD 0 = y from rfl] at this
            rw [← this]
            congr 1
            simp only [Addr.add]
            split
            · rename_i e; subst e; rfl
            · rfl
          · cases hy
      rw [hlen] at key
      exact key

/-- A law's own question: S says yes. -/
theorem law_bytes {p : Prg} (hp : PrgOK P p) {k n : Nat} {a : Option Addr} {len cap : Nat} {zs : List Int} {los : List SO} {w : World} (hrow : IsRow .u8 w a len cap zs)
    (h : callF p n k [.sl 1 ((zs.take len).map bI)] [] = some (.v (.bool true), los)) :
    Calls P k #[.slice a len cap] w fun e w' => e = .returned (.bool true) ∧ Below w.heap.size w w' := by
  obtain ⟨-, hc⟩ := callF_ok hp n k _ [] los _ h
  have hB : ∀ b, b < w.heap.size → Bk ⟨w.heap.size, fun _ => True, fun _ => False, w⟩ [] G0 w b := fun b hb => ⟨hb, fun _ => trivial, fun ⟨j, o, hj, _⟩ => by simp at hj⟩
  refine (hc (fun _ => True) (fun _ => False) G0 [.slice a len cap] w (fun b hb => by obtain ⟨j, o, hj, _⟩ := hb; simp at hj) (mem_none w _ _) (RepL.cons (row_rep hrow hB) RepL.nil)).mono ?_
  rintro e w' ⟨v, g', rfl, m, -, hv, -⟩
  obtain rfl := v_rep hv
  exact ⟨rfl, m.out.1, m.out.2.1, m.out.2.2, m.size, fun b hb => m.frame b hb (fun h => h)⟩

/-- A law's own question about two texts of bytes: S says yes. -/
theorem law_bytes2 {p : Prg} (hp : PrgOK P p) {k n : Nat} {a : Option Addr} {len cap : Nat} {zs : List Int} {a' : Option Addr} {len' cap' : Nat} {zs' : List Int} {los : List SO} {w : World} (hrow : IsRow .u8 w a len cap zs) (hrow' : IsRow .u8 w a' len' cap' zs')
    (h : callF p n k [.sl 1 ((zs.take len).map bI), .sl 1 ((zs'.take len').map bI)] [] = some (.v (.bool true), los)) :
    Calls P k #[.slice a len cap, .slice a' len' cap'] w fun e w' => e = .returned (.bool true) ∧ Below w.heap.size w w' := by
  obtain ⟨-, hc⟩ := callF_ok hp n k _ [] los _ h
  have hB : ∀ b, b < w.heap.size → Bk ⟨w.heap.size, fun _ => True, fun _ => False, w⟩ [] G0 w b := fun b hb => ⟨hb, fun _ => trivial, fun ⟨j, o, hj, _⟩ => by simp at hj⟩
  refine (hc (fun _ => True) (fun _ => False) G0 [.slice a len cap, .slice a' len' cap'] w (fun b hb => by obtain ⟨j, o, hj, _⟩ := hb; simp at hj) (mem_none w _ _) (RepL.cons (row_rep hrow hB) (RepL.cons (row_rep hrow' hB) RepL.nil))).mono ?_
  rintro e w' ⟨v, g', rfl, m, -, hv, -⟩
  obtain rfl := v_rep hv
  exact ⟨rfl, m.out.1, m.out.2.1, m.out.2.2, m.size, fun b hb => m.frame b hb (fun h => h)⟩

section
open Go.ChangeShapes Go.WideShapes
/-- A row's slice of whole numbers is no longer than its weight allows. -/
theorem sized_ints {H : Type} {enc : TypeId × Value → H} {P : Program} {W : World} {base : Nat} {spare : Nat → Bool} {held : Bool} {t e : TypeId} {k : IntKind} {a : Option Addr} {len cap : Nat} {d : DataW H} {ps : List MemPlace} {ts : List TypeId} {ds : List (DataW H)} {j : Nat}
    (hsz : (DataW.weightsEach P ts ds).all (· ≤ reachBytes) = true) (ht : ts[j]? = some t) (hd : ds[j]? = some d) (hu : P.underlying t = some (.slice e)) (he : P.underlying e = some (.int k)) (hc : P.cellsOf e = 1) {B : Nat} (hB : P.bytesOf e = B)
    (h : DataW.Trod enc P W base spare held t (.slice a len cap) d ps) : len * B ≤ 140737488351232 := by
  obtain ⟨fuel, hf⟩ := h
  rcases open_ints hu he hc hf with ⟨hcs, _⟩ | ⟨x, l, c, zs, hcs, _, hl, _, hz, hx, _, _⟩
  · simp [Value.cells] at hcs
    obtain ⟨rfl, rfl, rfl⟩ := hcs
    simp
  · simp [Value.cells] at hcs
    obtain ⟨rfl, rfl, rfl⟩ := hcs
    obtain ⟨hx, _⟩ := Prod.mk.inj hx
    subst hx
    have z := sized_slice hsz ht hd hu
    rw [hB] at z
    have hl2 : len ≤ zs.length := by
      rw [hz]
      split
      · exact hl
      · exact Nat.le_refl _
    have h1 : (lits (H := H) k (zs.take len)).length + (lits (H := H) k (zs.drop len)).length = zs.length := by
      simp [lits]
      omega
    rw [h1] at z
    exact Nat.le_trans (Nat.mul_le_mul_right _ hl2) z
end

theorem bytes_of {l : List Int} (h : ∀ x ∈ l, (Lit.int .u8 x).wf = true) (i : Nat) : 0 ≤ nth l i ∧ nth l i < 256 := by
  by_cases hi : i < l.length
  · have hm : nth l i ∈ l := List.mem_of_getElem? (get_nth hi)
    have := h _ hm
    simp [Lit.wf, IntKind.min, IntKind.max, IntKind.bits, IntKind.signed] at this
    omega
  · have : nth l i = 0 := by
      unfold nth
      rw [List.getD_eq_getElem?_getD, List.getElem?_eq_none (by omega)]; rfl
    omega

end Go.Proofs.Ytjfegdlgepbjoaa
