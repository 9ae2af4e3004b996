/- The evaluator S and what it says of functions: Tk, Tl, Tc. -/
import Derived.Test.YtlnenahbffkbiaaProg
import Derived.Test.YtlnenahbffkbiaaTb
import Derived.Shelf.Spec.SlicesInsertGrow
import Derived.Laws.Cover3
/- slices.Insert of packages, walked. -/
set_option linter.unusedVariables false
set_option linter.unusedSimpArgs false
namespace Go.Proofs.Ytlnenahbffkbiaa
open Go Go.Shelf Go.RowKit Go.Lib Go.Proofs
set_option maxHeartbeats 4000000
set_option maxRecDepth 100000
theorem copy_room {P : Program} {t e ty : Nat} {info : TypeInfo} (ht : P.underlying t = some (.slice e)) (hi : P.info? e = some info) (w : World) (b o dl dc N s0 : Nat) (a : Addr) (n xc : Nat) (cs : List Value)
    (hlen : cs.length = min n dl * info.size) (hrd : ∀ j v, cs[j]? = some v → w.cell? (a.add j) = some v) (hR : Room w b N s0) (hN : o + cs.length ≤ N) (h1 : ∀ v : Value, v ∈ cs → v.oneCell' = true) :
    (Builtin.copy_ #[t, t] ty #[.slice (some ⟨b, o, none⟩) dl dc, .slice (some a) n xc]).run P w = .ok (.int .i64 ((min n dl : Nat) : Int)) (w.setCells b o cs) :=
  run_copy ht hi (cells := cs.toArray) (run_firstCells_some w info.size (min n dl) a n xc cs hlen hrd) (run_stores hR hN h1)
theorem heap_setCell_eq (a : Addr) (v : Value) {w1 w2 : World} (h : w1.heap = w2.heap) : (w1.setCell a v).heap = (w2.setCell a v).heap := by
  unfold World.setCell
  rw [h]
  repeat' split
  all_goals first | rfl | exact h | (simp only [h])
theorem heap_setCells_eq (b : Nat) : ∀ (vs : List Value) (o : Nat) {w1 w2 : World}, w1.heap = w2.heap → (w1.setCells b o vs).heap = (w2.setCells b o vs).heap
  | [], _, _, _, h => h
  | v :: r, o, w1, w2, h => by rw [World.setCells, World.setCells]; exact heap_setCells_eq b r _ (heap_setCell_eq _ v h)
theorem pk_und : Try.prog.underlying 23 = some (.slice 33) := by kernel_rfl
theorem pk_info : ∃ info, Try.prog.info? 33 = some info ∧ info.size = 4 ∧ info.bytes = 64 ∧ ∃ z, info.zero = some z ∧ z.cells.size = 4 := by
  have h0 : (Try.prog.info? 33).isSome = true := by kernel_rfl
  have h1 : (Try.prog.info? 33).map (·.size) = some 4 := by kernel_rfl
  have h2 : (Try.prog.info? 33).map (·.bytes) = some 64 := by kernel_rfl
  have h3 : ((Try.prog.info? 33).bind (·.zero)).map (·.cells.size) = some 4 := by kernel_rfl
  obtain ⟨info, h⟩ := Option.isSome_iff_exists.1 h0
  rw [h] at h1 h2 h3
  obtain ⟨z, hz, hz2⟩ := Option.map_eq_some_iff.1 h3
  exact ⟨info, h, Option.some.inj h1, Option.some.inj h2, z, hz, hz2⟩
theorem ins_over (w : World) (b vb o1 vc lb cb : Nat) (hvb : vb ≠ b) (N M : Nat) (hN : 0 < N) (hM : 0 < M) (hRb : Room w b N 4) (hRv : Room w vb M 4) : (callFunc 63 #[.slice (some ⟨vb, 0, none⟩) 1 vc, .slice (some ⟨b, o1, none⟩) lb cb]).run Try.prog w = .ok (.value (.bool false)) w := by
  obtain ⟨cs, t, fz, h1, h2, h3, h4⟩ := hRb
  obtain ⟨cs', t', fz', g1, g2, g3, g4⟩ := hRv
  have hz : ∀ w, (Go.sizeOf 33).run Try.prog w = .ok 4 w := fun w => by kernel_rfl
  rw [run_callFunc_extern Try.func63 (by kernel_rfl) (by kernel_rfl) (by kernel_rfl) (e := Extern.SlicesOverlaps.overlaps #[23, 23] #[4]) (by kernel_rfl),
    Lib.run_overlaps_apart w 23 4 33 pk_und 4 hz ⟨vb, 0, none⟩ ⟨b, o1, none⟩ 1 vc lb cb hvb t' t cs'.size cs.size (by simp [World.shape?, g1]) (by simp [World.shape?, h1]) (by omega)
      (by obtain ⟨lo, hi⟩ := fz'; have := g3 0 (by omega); simp only [World.frozen?, g1]; simpa using this) (by obtain ⟨lo, hi⟩ := fz'; have := g4 (by decide); simp only [World.frozen?, g1]; simpa using this)]
  rfl
theorem ins_shift (b n c i vb vc M : Nat) (cs vs : List Value) (w : World) (hi : i < n) (hroom : n + 1 ≤ c) (hn63 : n ≤ 4611686018427387904) (hvb : vb ≠ b) (hcl : cs.length = n * 4) (hvl : vs.length = 4)
    (hcs : CellsAt w b 0 cs) (hvs : CellsAt w vb 0 vs) (hRb : Room w b (c * 4) 4) (hRv : Room w vb M 4) (hM : 0 < M) (h1c : ∀ v : Value, v ∈ cs → v.oneCell' = true) (h1v : ∀ v : Value, v ∈ vs → v.oneCell' = true) :
    Calls Try.prog 51 #[.slice (some ⟨b, 0, none⟩) n c, .int .i64 i, .slice (some ⟨vb, 0, none⟩) 1 vc] w fun e w' =>
      e = .returned (.slice (some ⟨b, 0, none⟩) (n + 1) c) ∧ w' = (w.drew.setCells b ((i + 1) * 4) (cs.drop (i * 4))).setCells b (i * 4) vs := by
  obtain ⟨info, hinfo, hsz, -, -⟩ := pk_info
  have mixed : Try.prog.follows .mixedOrders = true := by kernel_rfl
  have hov : ∀ lb cb, (callFunc 63 #[.slice (some ⟨vb, 0, none⟩) 1 vc, .slice (some ⟨b, (i + 1) * 4, none⟩) lb cb]).run Try.prog w = .ok (.value (.bool false)) w := fun lb cb => ins_over w b vb _ vc lb cb hvb (c * 4) M (by omega) hM hRb hRv
  have hz2 : ¬ ((i : Int) = (n : Int)) := by omega
  have hw1 : IntKind.i64.wrap ((i : Int) + 1) = (i : Int) + 1 := by rw [IntKind.wrap_i64]; omega
  have hw2 : IntKind.i64.wrap ((n : Int) + 1) = (n : Int) + 1 := by rw [IntKind.wrap_i64]; omega
  have hb1 : (0 : Int) ≤ (i : Int) + 1 := by omega
  have hin : i ≤ n := by omega
  have htn : ((i : Int) + 1).toNat = i + 1 := by omega
  have hb2 : ¬ (c = i + 1) := by omega
  have hb3 : (i : Int) ≤ (n : Int) + 1 := by omega
  have hb4 : ¬ (c = i) := by omega
  have hRd : Room w.drew b (c * 4) 4 := hRb
  have hdl : (cs.drop (i * 4)).length = (n - i) * 4 := by rw [List.length_drop, hcl]; omega
  have hcp1 : ∀ ty dc sc, (Builtin.copy_ #[23, 23] ty #[.slice (some ⟨b, (i + 1) * 4, none⟩) (n - i) dc, .slice (some ⟨b, i * 4, none⟩) (n + 1 - i) sc]).run Try.prog w.drew = .ok (.int .i64 ((min (n + 1 - i) (n - i) : Nat) : Int)) (w.drew.setCells b ((i + 1) * 4) (cs.drop (i * 4))) := fun ty dc sc =>
    copy_room pk_und hinfo w.drew b ((i + 1) * 4) (n - i) dc (c * 4) 4 ⟨b, i * 4, none⟩ (n + 1 - i) sc (cs.drop (i * 4)) (by rw [hdl, hsz, Nat.min_eq_right (by omega)])
      (fun j v hj => by rw [Addr.add_lit]; have := hcs.drop (i * 4) j v hj; rw [Nat.zero_add] at this; exact this) hRd (by rw [hdl]; omega) (fun v hv => h1c v (List.mem_of_mem_drop hv))
  have hR2 : Room (w.drew.setCells b ((i + 1) * 4) (cs.drop (i * 4))) b (c * 4) 4 := room_setCells hRd _ _
  have hcp2 : ∀ (W : World), W.heap = (w.drew.setCells b ((i + 1) * 4) (cs.drop (i * 4))).heap → ∀ ty dc, (Builtin.copy_ #[23, 23] ty #[.slice (some ⟨b, i * 4, none⟩) (n + 1 - i) dc, .slice (some ⟨vb, 0, none⟩) 1 vc]).run Try.prog W = .ok (.int .i64 ((min 1 (n + 1 - i) : Nat) : Int)) (W.setCells b (i * 4) vs) := fun W hW ty dc =>
    copy_room pk_und hinfo W b (i * 4) (n + 1 - i) dc (c * 4) 4 ⟨vb, 0, none⟩ 1 vc vs (by rw [hvl, hsz, Nat.min_eq_left (by omega)])
      (fun j v hj => by
        rw [Addr.add_lit, cell?_heap (show W.heap[vb]? = w.heap[vb]? by rw [hW, heap_setCells_ne b vb (fun e => hvb e.symm)]; rfl)]
        exact hvs j v hj) (by unfold Room at hR2 ⊢; rw [hW]; exact hR2) (by rw [hvl]; omega) h1v
  go_enter Try.func51, Try.ntmps51
  go_wp2_with (simp only [hov])
  go_region_law_o (refine step_copy_runI rfl _ _ 23 23 rfl _ _ (by simp [Act.eval, Act.put]) (by simp [Act.eval, Act.put]) (hcp1 _ _ _) ?_)
  go_wp2_with (at_builtin; refine wpList_copy_runI _ rfl _ _ 23 23 rfl _ _ rfl rfl (hcp2 _ rfl _ _) ?_)
  go_ret
  exact ⟨rfl, rfl⟩
theorem ins_end (base : Option Addr) (n c vb vc : Nat) (w w' : World) (v : Value) (hn63 : n ≤ 4611686018427387904) (hnc : n ≤ c) (h : (Builtin.append_ #[23, 23] 23 #[.slice base n c, .slice (some ⟨vb, 0, none⟩) 1 vc]).run Try.prog w = .ok v w') :
    Calls Try.prog 51 #[.slice base n c, .int .i64 n, .slice (some ⟨vb, 0, none⟩) 1 vc] w fun e w1 => e = .returned v ∧ w1 = w' := by
  have mixed : Try.prog.follows .mixedOrders = true := by kernel_rfl
  have hb0 : (n : Int) ≤ (n : Int) := Int.le_refl _
  cases base with
  | none =>
    go_enter Try.func51, Try.ntmps51
    go_wp2_with (at_builtin; refine Lib.wpList_append_run _ rfl _ _ _ _ rfl _ _ rfl rfl _ _ h ?_)
    all_goals (go_ret; exact ⟨rfl, rfl⟩)
  | some a =>
    obtain ⟨ab, ao, asp⟩ := a
    go_enter Try.func51, Try.ntmps51
    go_wp2_with (at_builtin; refine Lib.wpList_append_run _ rfl _ _ _ _ rfl _ _ rfl rfl _ _ h ?_)
    all_goals (go_ret; exact ⟨rfl, rfl⟩)
theorem ins_grow (b n c i vb vc : Nat) (cs vs : List Value) (w : World) (hi : i < n) (hnc : n ≤ c) (hroom : c < n + 1) (hbig : (n + 1) * 64 ≤ 140737488355328) (hbw : b < w.heap.size) (hvw : vb < w.heap.size) (hcl : cs.length = n * 4) (hvl : vs.length = 4)
    (hcs : CellsAt w b 0 cs) (hvs : CellsAt w vb 0 vs) (h1c : ∀ v : Value, v ∈ cs → v.oneCell' = true) (h1v : ∀ v : Value, v ∈ vs → v.oneCell' = true) :
    ∃ (G : Nat) (ROW : Array Value), n + 1 ≤ G ∧ ROW.size = G * 4 ∧ (∀ (j : Nat) (v : Value), (cs.take (i * 4))[j]? = some v → ROW[j]? = some v) ∧
    Calls Try.prog 51 #[.slice (some ⟨b, 0, none⟩) n c, .int .i64 i, .slice (some ⟨vb, 0, none⟩) 1 vc] w fun e w' =>
      e = .returned (.slice (some ⟨w.heap.size, 0, none⟩) (n + 1) G) ∧
      w'.heap = (((w.drew.alloc (.cells ROW 33)).setCells w.heap.size (i * 4) vs).setCells w.heap.size ((i + 1) * 4) (cs.drop (i * 4))).heap ∧ SameOut w w' := by
  obtain ⟨info, hinfo, hsz, hby, z, hz, hzc⟩ := pk_info
  have mixed : Try.prog.follows .mixedOrders = true := by kernel_rfl
  have h3u : Try.prog.underlying 3 = some (.int .i64) := by kernel_rfl
  have hz2 : ¬ ((i : Int) = (n : Int)) := by omega
  have hz3 : (c : Int) < (n : Int) + 1 := by omega
  have hkk : (n : Int) + 1 - (i : Int) = ((n + 1 - i : Nat) : Int) := by omega
  have hik : i + (n + 1 - i) = n + 1 := by omega
  have hold : (Builtin.firstCells info.size i (.slice (some ⟨b, 0, none⟩) i c)).run Try.prog w.drew = .ok (cs.take (i * 4)).toArray w.drew :=
    run_firstCells_some w.drew info.size i ⟨b, 0, none⟩ i c (cs.take (i * 4)) (by rw [List.length_take, hsz]; omega) (fun j v hj => by
      rw [Addr.add_lit]
      rw [List.getElem?_take] at hj
      split at hj
      · exact hcs j v hj
      · cases hj)
  obtain ⟨G, hG⟩ : ∃ G, G = grownCap w (n + 1) c 33 := ⟨_, rfl⟩
  obtain ⟨ROW, hROW⟩ : ∃ ROW : Array Value, ROW = (cs.take (i * 4)).toArray ++ Builtin.zeroCells z.cells (n + 1 - i) ++ Builtin.zeroCells z.cells (G - (n + 1)) := ⟨_, rfl⟩
  have hGn : n + 1 ≤ G := by rw [hG]; exact grownCap_ge w _ _ _
  have hrz : ∀ ty, (Builtin.append_ #[23, 3] ty #[.slice (some ⟨b, 0, none⟩) i c, .int .i64 ((n : Int) + 1 - (i : Int))]).run Try.prog w = .ok (.slice (some ⟨w.heap.size, 0, none⟩) (n + 1) G) (w.drew.alloc (.cells ROW 33)) := fun ty => by
    have h := Lib.run_append_grow_zeros w 23 3 ty 33 info _ .i64 .i64 pk_und h3u hinfo hz (some ⟨b, 0, none⟩) i c (cs.take (i * 4)) hold (n + 1 - i) (by omega) (by omega) (by omega) (by omega) (by rw [hby]; omega) (by
      rw [hby, hik]
      have := nextslicecap_le (need := n + 1) (old := c) (by omega)
      omega)
    rw [hik, ← hG] at h
    rw [hkk, hROW]
    exact h
  have hRs : ROW.size = G * 4 := by
    rw [hROW]
    simp only [Array.size_append, List.size_toArray, List.length_take, size_zeroCells, hzc]
    omega
  refine ⟨G, ROW, hGn, hRs, fun j v hj => ?_, ?_⟩
  · rw [hROW]
    have hjl := lt_of_getElem? hj
    rw [Array.append_assoc, Array.getElem?_append_left (by simpa using hjl)]
    simpa using hj
  obtain ⟨W1, hW1⟩ : ∃ W1, W1 = w.drew.alloc (.cells ROW 33) := ⟨_, rfl⟩
  rw [← hW1] at hrz ⊢
  have hR1 : Room W1 w.heap.size (G * 4) 4 := by rw [hW1]; exact room_alloc_new w.drew ROW _ _ (by omega)
  have hOld : ∀ x, x < w.heap.size → W1.heap[x]? = w.heap[x]? := fun x hx => by rw [hW1]; exact heap_alloc_lt w.drew _ x hx
  have hcpA : ∀ (W : World), W.heap = W1.heap → ∀ ty dc, (Builtin.copy_ #[23, 23] ty #[.slice (some ⟨w.heap.size, i * 4, none⟩) (n + 1 - i) dc, .slice (some ⟨vb, 0, none⟩) 1 vc]).run Try.prog W = .ok (.int .i64 ((min 1 (n + 1 - i) : Nat) : Int)) (W.setCells w.heap.size (i * 4) vs) := fun W hW ty dc =>
    copy_room pk_und hinfo W w.heap.size (i * 4) (n + 1 - i) dc (G * 4) 4 ⟨vb, 0, none⟩ 1 vc vs (by rw [hvl, hsz, Nat.min_eq_left (by omega)])
      (fun j v hj => by
        rw [Addr.add_lit, cell?_heap (show W.heap[vb]? = w.heap[vb]? by rw [hW, hOld vb hvw])]
        exact hvs j v hj) (by unfold Room at hR1 ⊢; rw [hW]; exact hR1) (by rw [hvl]; omega) h1v
  have hdl : (cs.drop (i * 4)).length = (n - i) * 4 := by rw [List.length_drop, hcl]; omega
  have hcpB : ∀ (W : World), W.heap = (W1.setCells w.heap.size (i * 4) vs).heap → ∀ ty dc sc, (Builtin.copy_ #[23, 23] ty #[.slice (some ⟨w.heap.size, (i + 1) * 4, none⟩) (n - i) dc, .slice (some ⟨b, i * 4, none⟩) (n - i) sc]).run Try.prog W = .ok (.int .i64 ((min (n - i) (n - i) : Nat) : Int)) (W.setCells w.heap.size ((i + 1) * 4) (cs.drop (i * 4))) := fun W hW ty dc sc =>
    copy_room pk_und hinfo W w.heap.size ((i + 1) * 4) (n - i) dc (G * 4) 4 ⟨b, i * 4, none⟩ (n - i) sc (cs.drop (i * 4)) (by rw [hdl, hsz, Nat.min_self])
      (fun j v hj => by
        rw [Addr.add_lit, cell?_heap (show W.heap[b]? = w.heap[b]? by rw [hW, heap_setCells_ne _ b (by omega), hOld b hbw])]
        have := hcs.drop (i * 4) j v hj; rw [Nat.zero_add] at this; exact this)
      (by have := room_setCells hR1 (i * 4) vs; unfold Room at this ⊢; rw [hW]; exact this) (by rw [hdl]; omega) (fun v hv => h1c v (List.mem_of_mem_drop hv))
  have hw1 : IntKind.i64.wrap ((i : Int) + 1) = (i : Int) + 1 := by rw [IntKind.wrap_i64]; omega
  have hw2 : IntKind.i64.wrap ((n : Int) + 1) = (n : Int) + 1 := by rw [IntKind.wrap_i64]; omega
  have hw3 : IntKind.i64.wrap ((n : Int) + 1 - (i : Int)) = (n : Int) + 1 - (i : Int) := by rw [IntKind.wrap_i64]; omega
  have hb1 : (0 : Int) ≤ (i : Int) + 1 := by omega
  have hin : i ≤ n := by omega
  have hin1 : (i : Int) ≤ (n : Int) := by omega
  have htn : ((i : Int) + 1).toNat = i + 1 := by omega
  have hGi : ¬ (G = i) := by omega
  have hGim : ¬ (G = i + 1) := by omega
  have hci : ¬ (c = i) := by omega
  have hb3 : (i : Int) ≤ (n : Int) + 1 := by omega
  have hG63 : G ≤ 9223372036854775807 := by
    have := grownCap_le_maxLen w (n + 1) c 33 (by unfold maxLen; omega)
    rw [← hG] at this
    unfold maxLen at this
    omega
  subst hW1
  have hE1 : ((w.alloc (.cells ROW 33)).drew).heap = (w.drew.alloc (.cells ROW 33)).heap := rfl
  have hF1 : (((w.alloc (.cells ROW 33)).drew.setCells w.heap.size (i * 4) vs).drew).heap = ((w.drew.alloc (.cells ROW 33)).setCells w.heap.size (i * 4) vs).heap := rfl
  clear hkk hik hold hROW hG
  go_enter Try.func51, Try.ntmps51
  go_wp2_with (first
    | (at_builtin; refine Lib.wpList_append_run _ rfl _ _ _ _ rfl _ _ rfl rfl _ _ (hrz _) ?_)
    | (at_builtin; refine wpList_copy_runI _ rfl _ _ 23 23 rfl _ _ rfl rfl (hcpA _ hE1 _ _) ?_))
  go_region_law_o (refine step_copy_runI rfl _ _ 23 23 rfl (.slice (some ⟨w.heap.size, (i + 1) * 4, none⟩) (n - i) (G - (i + 1))) (.slice (some ⟨b, i * 4, none⟩) (n - i) (c - i)) (by simp [Act.eval, Act.put]) (by simp [Act.eval, Act.put]) (hcpB _ hF1 3 (G - (i + 1)) (c - i)) ?_)
  go_wp2
  go_ret
  have o1 : SameOut w ((w.alloc (.cells ROW 33)).drew) := ⟨rfl, rfl, rfl⟩
  have o2 : SameOut w (((w.alloc (.cells ROW 33)).drew.setCells w.heap.size (i * 4) vs).drew) := o1.trans (out_setCells _ _ _ _)
  exact ⟨rfl, heap_setCells_eq _ _ _ (heap_setCells_eq _ _ _ rfl), o2.trans (out_setCells _ _ _ _)⟩
end Go.Proofs.Ytlnenahbffkbiaa

/- slices.Insert of packages, as S says it. -/
namespace Go.Proofs.Ytlnenahbffkbiaa
open Go
set_option linter.unusedVariables false
set_option linter.unusedSimpArgs false
set_option maxHeartbeats 4000000
variable {T : Tab}
theorem flat_insert {vs : List Value} {xv : Value} {i : Nat} (h : ∀ v : Value, v ∈ vs → ElOK 4 v) : flatV (vs.take i ++ xv :: vs.drop i) = (flatV vs).take (i * 4) ++ xv.cells.toList ++ (flatV vs).drop (i * 4) := by
  rw [flatV_append, flatV_take h, flatV_drop h, List.append_assoc]
  rfl
theorem flat_one {vs : List Value} (h : ∀ v : Value, v ∈ vs → ElOK 4 v) : ∀ c, c ∈ flatV vs → c.oneCell' = true := fun c hc => by
  obtain ⟨v, hv, hc⟩ := List.mem_flatMap.1 hc
  exact (h v hv).2 c hc
theorem ins_fin {A L : Nat → Prop} {g : Nat → Gh} {w w' : World} {l : List SV} {x : SV} {i : Nat} {vs : List Value} {xv : Value} (hm : Mem ⟨w.heap.size, A, L, w⟩ [.arr true 4 l, .arr true 4 [x]] g w)
    (hr : RepL w (Bk ⟨w.heap.size, A, L, w⟩ [.arr true 4 l, .arr true 4 [x]] g w) G0 l vs) (hx : RepL w (Bk ⟨w.heap.size, A, L, w⟩ [.arr true 4 l, .arr true 4 [x]] g w) G0 [x] [xv]) (hv : ∀ v : Value, v ∈ vs → ElOK 4 v) (hxv : ElOK 4 xv)
    (so : SameOut w w') (hs : w.heap.size ≤ w'.heap.size) (hw : ∀ c, c < w.heap.size → (g 0).block? ≠ some c → w'.heap[c]? = w.heap[c]?) (b cap : Nat) (hb : ((g 0).block? = some b ∨ w.heap.size ≤ b) ∧ b < w'.heap.size)
    (hcap : l.length + 1 ≤ cap) (hcells : CellsAt w' b 0 (flatV (vs.take i ++ xv :: vs.drop i))) (hR : Room w' b (cap * 4) 4) :
    ∃ v g', Ending.returned (.slice (some ⟨b, 0, none⟩) (l.length + 1) cap) = .returned v ∧ Mem ⟨w.heap.size, A, L, w⟩ [.dead, .arr true 4 [x], .arr true 4 (l.take i ++ x :: l.drop i)] g' w' ∧
      (∀ j, j < [SO.arr true 4 l, .arr true 4 [x]].length → g j ≠ .no → g' j = g j) ∧ RepV w' (Bk ⟨w.heap.size, A, L, w⟩ [.dead, .arr true 4 [x], .arr true 4 (l.take i ++ x :: l.drop i)] g' w') g' (.osl 2) v ∧
      [SO.arr true 4 l, .arr true 4 [x]].length ≤ [SO.dead, .arr true 4 [x], .arr true 4 (l.take i ++ x :: l.drop i)].length := by
  have hj : ([SO.arr true 4 l, .arr true 4 [x]] : List SO)[0]? = some (.arr true 4 l) := rfl
  have hlen : (l.take i ++ x :: l.drop i).length = l.length + 1 := by simp only [List.length_append, List.length_cons, List.length_take, List.length_drop]; omega
  have hx0 : ∀ c, (Gh.blk b 4 (l.length + 1) cap).block? = some c → ((g 0).block? = some c ∨ w.heap.size ≤ c) ∧ c < w'.heap.size := fun c hc => by
    simp only [Gh.block?, Option.some.injEq] at hc
    subst hc; exact hb
  have hnew : upd g 2 (.blk b 4 (l.length + 1) cap) 2 = .blk b 4 (l.length + 1) cap := by unfold upd; rw [if_pos rfl]
  have hg := (move_chg hm so hj (.arr true 4 (l.take i ++ x :: l.drop i)) _ hs hw hx0).grow
  have hrep : RepL w _ G0 (l.take i ++ x :: l.drop i) (vs.take i ++ xv :: vs.drop i) := (hr.take i).append (RepL.cons (hx.2 0 x xv rfl rfl) (hr.drop i))
  have hmem := move_mem hm so hj (.blk b 4 (l.length + 1) cap) hs hw hx0 (sz' := 4) (l' := l.take i ++ x :: l.drop i) (.inr ⟨b, cap, _, by rw [hlen]; exact hnew, by rw [hlen]; exact hcap, hrep.mono hg.sub hg.same (fun _ h => absurd rfl h), fun v hv' => by
    rcases List.mem_append.1 hv' with h | h
    · exact hv v (List.mem_of_mem_take h)
    · rcases List.mem_cons.1 h with rfl | h
      · exact hxv
      · exact hv v (List.mem_of_mem_drop h), hcells, hR⟩)
  refine ⟨_, _, rfl, hmem, fun j hj2 _ => ?_, .osl hnew, by simp⟩
  have hj3 : j < 2 := hj2
  show (if j = 2 then _ else g j) = g j
  rw [if_neg (by omega)]
theorem ins_ok (hT : TabOk Try.prog T) {ti : TI} (hu : T.und 23 = some (.slice 33)) (hi : T.ti 33 = some ti) (h4 : ti.size = 4) (h64 : ti.bytes = 64) : KOK1 Try.prog 51 (insS 4 64) := by
  intro args los los' r h
  refine ⟨⟨_, _, Try.func51, by kernel_rfl, rfl⟩, ?_⟩
  unfold insS at h
  split at h
  rotate_left
  · cases h
  rename_i k s1 l s2 x
  split at h
  rotate_left
  · cases h
  rename_i hc
  obtain ⟨rfl, rfl, c3, c4, c5⟩ := hc
  cases h
  intro A L g vals w hL hm ha
  obtain ⟨v0, vals, rfl, h0, ha⟩ := ha.uncons
  obtain ⟨v1, vals, rfl, h1, ha⟩ := ha.uncons
  obtain ⟨v2, vals, rfl, h2, ha⟩ := ha.uncons
  obtain rfl : vals = [] := by have := ha.1; cases vals <;> simp at this ⊢
  obtain rfl : v1 = .int .i64 k := by cases h1; rfl
  obtain ⟨i, rfl⟩ : ∃ i : Nat, k = i := ⟨k.toNat, by omega⟩
  rw [Int.toNat_natCast]
  have hil : i ≤ l.length := by omega
  obtain ⟨b2, cap2, xs, e1, e2, e3, e4, e5, e6⟩ : ∃ b cap vs, g 1 = .blk b 4 1 cap ∧ 1 ≤ cap ∧ RepL w (Bk ⟨w.heap.size, A, L, w⟩ [.arr true 4 l, .arr true 4 [x]] g w) G0 [x] vs ∧ (∀ v : Value, v ∈ vs → ElOK 4 v) ∧ CellsAt w b 0 (flatV vs) ∧ Room w b (cap * 4) 4 := by
    rcases hm.objs 1 _ rfl with ⟨h9, -⟩ | h9
    · cases h9
    · exact h9
  obtain rfl : v2 = .slice (some ⟨b2, 0, none⟩) 1 cap2 := by
    cases h2 with
    | osl0 hg => rw [e1] at hg; cases hg
    | osl hg => rw [e1] at hg; cases hg; rfl
  obtain ⟨xv, rfl⟩ : ∃ xv, xs = [xv] := by
    match xs, e3.1 with
    | [xv], _ => exact ⟨xv, rfl⟩
  have hxv := e4 xv (by simp)
  have hxl : xv.cells.toList.length = 4 := by have := hxv.1; simpa using this
  have hfx : flatV [xv] = xv.cells.toList := by simp [flatV]
  have hb2 : b2 < w.heap.size := (hm.own b2 ⟨1, _, rfl, rfl, by rw [e1]; rfl⟩).1
  by_cases hend : i = l.length
  · -- at the end
    subst hend
    have hap : appendS T [.arr true 4 l, .arr true 4 [x]] 23 23 (.osl 0) (.osl 1) = some (.osl 2, [.dead, .arr true 4 [x], .arr true 4 (l ++ [x])]) := by
      have c6 : ti.bytes * (l.length + [x].length) ≤ 2 ^ 47 := by rw [h64]; simp only [List.length_cons, List.length_nil]; omega
      simp [appendS, hu, hi, elems, h4, h64]
      omega
    obtain ⟨v, w', hrun, g', m1, m2, m3⟩ := append_rep hT hm (ty := 23) h0 (.osl e1) hap
    have hbase : ∃ base cap, v0 = .slice base l.length cap ∧ l.length ≤ cap := by
      rcases hm.objs 0 _ rfl with ⟨rfl, hn⟩ | ⟨b, cap, vs, f1, f2, f3, f4, f5, f6⟩
      · cases h0 with
        | osl0 => exact ⟨none, 0, rfl, Nat.le_refl _⟩
        | osl hg => rw [hn] at hg; cases hg
      · cases h0 with
        | osl0 hg => rw [f1] at hg; cases hg
        | osl hg => rw [f1] at hg; cases hg; exact ⟨_, _, rfl, f2⟩
    obtain ⟨base, cap, rfl, hcap⟩ := hbase
    refine Calls.mono (ins_end base l.length cap b2 cap2 w w' v (by omega) hcap hrun) ?_
    rintro e w1 ⟨rfl, rfl⟩
    have el : l.take l.length ++ x :: l.drop l.length = l ++ [x] := by simp
    rw [el]
    exact ⟨v, g', rfl, m1, fun j hj hne => m2.ext j hne, m3, by simp⟩
  · have hin : i < l.length := by omega
    obtain ⟨b, cap, vs, f1, f2, f3, f4, f5, f6⟩ : ∃ b cap vs, g 0 = .blk b 4 l.length cap ∧ l.length ≤ cap ∧ RepL w (Bk ⟨w.heap.size, A, L, w⟩ [.arr true 4 l, .arr true 4 [x]] g w) G0 l vs ∧ (∀ v : Value, v ∈ vs → ElOK 4 v) ∧ CellsAt w b 0 (flatV vs) ∧ Room w b (cap * 4) 4 := by
      rcases hm.objs 0 _ rfl with ⟨rfl, -⟩ | h9
      · exact absurd hin (Nat.not_lt_zero _)
      · exact h9
    obtain rfl : v0 = .slice (some ⟨b, 0, none⟩) l.length cap := by
      cases h0 with
      | osl0 hg => rw [f1] at hg; cases hg
      | osl hg => rw [f1] at hg; cases hg; rfl
    have hvb : b2 ≠ b := fun e => by
      have := hm.inj 1 0 _ _ b rfl rfl rfl rfl (by rw [e1, e]; rfl) (by rw [f1]; rfl)
      omega
    have hbl : b < w.heap.size := (hm.own b ⟨0, _, rfl, rfl, by rw [f1]; rfl⟩).1
    have hvl : vs.length = l.length := f3.1.symm
    have hfl : (flatV vs).length = l.length * 4 := by rw [flatV_length f4, hvl]
    have h1v : ∀ v : Value, v ∈ xv.cells.toList → v.oneCell' = true := hxv.2
    have hcx : CellsAt w b2 0 xv.cells.toList := by rw [← hfx]; exact e5
    have hd : ((flatV vs).drop (i * 4)).length = (l.length - i) * 4 := by rw [List.length_drop, hfl]; omega
    by_cases hroom : l.length + 1 ≤ cap
    · refine Calls.mono (ins_shift b l.length cap i b2 cap2 (cap2 * 4) (flatV vs) xv.cells.toList w hin hroom (by omega) hvb hfl hxl f5 hcx f6 e6 (by omega) (flat_one f4) h1v) ?_
      rintro e w1 ⟨rfl, rfl⟩
      have hR1 : Room w.drew b (cap * 4) 4 := f6
      have hC1 := cells_setCells (o := (i + 1) * 4) (vs := (flatV vs).drop (i * 4)) hR1 (show CellsAt w.drew b 0 (flatV vs) from f5) (by omega) (by omega)
      have hR2 := room_setCells hR1 ((i + 1) * 4) ((flatV vs).drop (i * 4))
      have hC2 := cells_setCells (o := i * 4) (vs := xv.cells.toList) hR2 hC1 (by simp only [List.length_append, List.length_take]; omega) (by omega)
      have hR3 := room_setCells hR2 (i * 4) xv.cells.toList
      refine ins_fin hm f3 e3 f4 hxv ?_ ?_ ?_ b cap ⟨.inl (by rw [f1]; rfl), ?_⟩ hroom ?_ hR3
      · exact (SameOut.trans (w' := w.drew) ⟨rfl, rfl, rfl⟩ (out_setCells _ _ _ _)).trans (out_setCells _ _ _ _)
      · rw [size_setCells, size_setCells]; exact Nat.le_refl _
      · intro c hc hne
        have hcb : b ≠ c := fun e => hne (by rw [f1, e]; rfl)
        rw [heap_setCells_ne b c hcb, heap_setCells_ne b c hcb]; rfl
      · rw [size_setCells, size_setCells]; exact hbl
      · rw [flat_insert f4]
        have e9 : List.take (i * 4) (List.take ((i + 1) * 4) (flatV vs) ++ (flatV vs).drop (i * 4) ++ List.drop ((i + 1) * 4 + ((flatV vs).drop (i * 4)).length) (flatV vs)) = (flatV vs).take (i * 4) := by
          rw [List.append_assoc, List.take_append_of_le_length (by rw [List.length_take]; omega), List.take_take, Nat.min_eq_left (by omega)]
        have e8 : List.drop (i * 4 + xv.cells.toList.length) (List.take ((i + 1) * 4) (flatV vs) ++ (flatV vs).drop (i * 4) ++ List.drop ((i + 1) * 4 + ((flatV vs).drop (i * 4)).length) (flatV vs)) = (flatV vs).drop (i * 4) := by
          rw [hxl, hd, List.drop_eq_nil_of_le (show (flatV vs).length ≤ (i + 1) * 4 + (l.length - i) * 4 by omega), List.append_nil, List.drop_append_of_le_length (by rw [List.length_take]; omega), List.drop_eq_nil_of_le (by rw [List.length_take]; omega), List.nil_append]
        rw [e9, e8] at hC2
        exact hC2
    · obtain ⟨G, ROW, hG, hRs, hRt, hcall⟩ := ins_grow b l.length cap i b2 cap2 (flatV vs) xv.cells.toList w hin f2 (by omega) (by omega) hbl hb2 hfl hxl f5 hcx (flat_one f4) h1v
      refine Calls.mono hcall ?_
      rintro e w1 ⟨rfl, hh, so⟩
      have hR1 : Room (w.drew.alloc (.cells ROW 33)) w.heap.size (G * 4) 4 := room_alloc_new w.drew ROW _ _ (by omega)
      have hC0 : CellsAt (w.drew.alloc (.cells ROW 33)) w.heap.size 0 ((flatV vs).take (i * 4)) := fun j v hj => cells_alloc_new w.drew ROW 33 j v (by
        have := hRt j v hj
        simpa using this)
      have htl : ((flatV vs).take (i * 4)).length = i * 4 := by rw [List.length_take]; omega
      have hC1 := cells_setCells (o := i * 4) (vs := xv.cells.toList) hR1 hC0 (by omega) (by omega)
      have hR2 := room_setCells hR1 (i * 4) xv.cells.toList
      have hC2 := cells_setCells (o := (i + 1) * 4) (vs := (flatV vs).drop (i * 4)) hR2 hC1 (by simp only [List.length_append, List.length_take]; omega) (by omega)
      have hR3 := room_setCells hR2 ((i + 1) * 4) ((flatV vs).drop (i * 4))
      have hsz : w1.heap.size = w.heap.size + 1 := by rw [hh, size_setCells, size_setCells]; simp
      refine ins_fin hm f3 e3 f4 hxv so (by omega) ?_ w.heap.size G ⟨.inr (Nat.le_refl _), by omega⟩ hG ?_ ?_
      · intro c hc hne
        rw [hh, heap_setCells_ne _ c (by omega), heap_setCells_ne _ c (by omega)]
        exact heap_alloc_lt w.drew _ c hc
      · rw [flat_insert f4]
        have e9 : List.take ((i + 1) * 4) (List.take (i * 4) ((flatV vs).take (i * 4)) ++ xv.cells.toList ++ List.drop (i * 4 + xv.cells.toList.length) ((flatV vs).take (i * 4))) = (flatV vs).take (i * 4) ++ xv.cells.toList := by
          rw [List.take_take, Nat.min_self, List.drop_eq_nil_of_le (by omega), List.append_nil, List.take_of_length_le (by rw [List.length_append]; omega)]
        have e8 : List.drop ((i + 1) * 4 + ((flatV vs).drop (i * 4)).length) (List.take (i * 4) ((flatV vs).take (i * 4)) ++ xv.cells.toList ++ List.drop (i * 4 + xv.cells.toList.length) ((flatV vs).take (i * 4))) = [] := by
          refine List.drop_eq_nil_of_le ?_
          rw [List.take_take, Nat.min_self, List.drop_eq_nil_of_le (by omega), List.append_nil, List.length_append, htl, hxl, hd]
          omega
        rw [e9, e8, List.append_nil] at hC2
        exact hC2.heap (by rw [hh])
      · unfold Room at hR3 ⊢
        rw [hh]
        exact hR3
end Go.Proofs.Ytlnenahbffkbiaa

/- The evaluator S: slices.Clone, once for all types. -/
namespace Go.Proofs.Ytlnenahbffkbiaa
open Go
set_option linter.unusedVariables false
set_option linter.unusedSimpArgs false
variable {P : Program} {T : Tab}
def cl0 (t : Nat) : Code := .region 0 #[{ dst := some 2, op := .assign (.const (.slice none 0 0)), type := t, pos := "slices.go:355", after := #[], guard := none }] false
def cl1 (t b : Nat) : Code := .region 1 #[{ dst := some 3, op := .move (.tmp 0), type := t, pos := "slices.go:357", after := #[], guard := none },
  { dst := some 4, op := .binOp .eql t (.tmp 3) (.const (.slice none 0 0)) t, type := b, pos := "slices.go:357", after := #[{ on := 0, ground := .data }], guard := none }] false
def cl2 (t : Nat) : Code := .region 2 #[{ dst := some 2, op := .assign (.const (.slice none 0 0)), type := t, pos := "slices.go:358", after := #[], guard := none }] false
def cl3 (t : Nat) : Code := .region 3 #[{ dst := some 5, op := .buildSlice t 0 #[], type := t, pos := "slices.go:362", after := #[], guard := none },
  { dst := some 6, op := .move (.tmp 0), type := t, pos := "slices.go:362", after := #[], guard := none },
  { dst := some 7, op := .call { callee := .builtin .append, args := #[.tmp 5, .tmp 6], argTypes := #[t, t] }, type := t, pos := "slices.go:362",
    after := #[{ on := 0, ground := .data }, { on := 1, ground := .data }], guard := none },
  { dst := some 2, op := .assign (.tmp 7), type := t, pos := "slices.go:362",
    after := #[{ on := 2, ground := .data }, { on := 2, ground := .chain }, { on := 0, ground := .phase }, { on := 1, ground := .phase }, { on := 2, ground := .phase }], guard := none }] false
def cloneC (t b : Nat) : Code := (cl0 t).seq (((cl1 t b).seq (.cond (.tmp 4) ((cl2 t).seq .ret) .skip)).seq ((cl3 t).seq .ret))
theorem wp_val {o : Oper} {a : Act} {w w' : World} {v : Value} {next : Act → World → Prop} {Q : Exit → Act → World → Prop} (h : (execOp a.eval o).run P w = .ok (.value v) w') (hn : next (a.put o.dst v) w') : o.wp P a w next Q := by
  unfold Oper.wp
  rw [h]
  exact hn
theorem nil_any {w : World} {B : Nat → Prop} {g : Nat → Gh} {s s' : Nat} {v : Value} (h : RepV w B g (.sl s []) v) : RepV w B g (.sl s' []) v := by
  generalize hx : SV.sl s [] = x at h
  cases h <;> cases hx
  · exact .sl0
  · exact .sl0
theorem clone_ok (hT : TabOk P T) {f t e b : Nat} {fn : Func} {i : TI} (hf : P.funcs[f]? = some fn) (hn : (fn.name == "runtime.NumGoroutine") = false) (hb : fn.body = some (cloneC t b)) (hr : fn.results = #[.tmp 2]) (hnt : fn.ntmps = 8)
    (hu : T.und t = some (.slice e)) (hi : T.ti e = some i) (hmix : P.follows .mixedOrders = true) : KOK1 P f (cloneS i.size i.bytes) := by
  intro args los los' r h
  refine ⟨⟨fn, _, hf, hn, hb⟩, ?_⟩
  unfold cloneS at h
  split at h
  rotate_left
  · cases h
  rename_i s l
  split at h
  rotate_left
  · cases h
  rename_i hc
  obtain ⟨hc1, hc2, hc3⟩ := hc
  cases h
  intro A L g vals w hL hm ha
  obtain ⟨v, vs', rfl, hv, h2⟩ := ha.uncons
  obtain rfl : vs' = [] := by have := h2.1; cases vs' <;> simp at this ⊢
  have hund := hT.slice t e hu
  have key : ∀ (a : Option Addr) (n c : Nat), v = .slice a n c → l.length = n → Calls P f [v].toArray w fun e w' => ∃ v g', e = .returned v ∧ Mem ⟨w.heap.size, A, L, w⟩ [.arr false i.size l] g' w' ∧ (∀ j, j < ([] : List SO).length → g j ≠ .no → g' j = g j) ∧
        RepV w' (Bk ⟨w.heap.size, A, L, w⟩ [.arr false i.size l] g' w') g' (.osl 0) v ∧ ([] : List SO).length ≤ [SO.arr false i.size l].length := by
    intro a n c hvn hln
    subst hvn
    refine calls_of_wp hf hb ?_
    simp only [cloneC, hnt]
    refine wp_seq (wp_region ?_)
    simp only [cl0, List.size_toArray, List.length_cons, List.length_nil, List.range, List.range.loop, wpOps, List.getElem?_toArray, List.getElem?_cons_zero, Region.wanted, if_true, Oper.wp, execOp, Oper.upon, Sem.run_pure]
    refine .inl ?_
    simp only [Exit.then]
    have e1 : ({ tmps := #[Value.slice a n c] ++ Array.replicate (8 - (0 + 1)) undef, defers := [] } : Act).put (some 2) (.slice none 0 0) = { tmps := #[.slice a n c, undef, .slice none 0 0, undef, undef, undef, undef, undef], defers := [] } := rfl
    have e0 : ({ tmps := #[Value.slice a n c] ++ Array.replicate (8 - (0 + 1)) undef, defers := [] } : Act).eval (Operand.const (Value.slice none 0 0)) = .slice none 0 0 := rfl
    have e2 : ([Value.slice a n c].toArray ++ Array.replicate (8 - [Value.slice a n c].toArray.size) undef) = #[Value.slice a n c] ++ Array.replicate (8 - (0 + 1)) undef := rfl
    rw [e0, e1]
    refine wp_seq (wp_seq (wp_region ?_))
    have hbin : (binOp .eql t (.slice a n c) (.slice none 0 0)).run P w = .ok (.bool a.isNone) w := by
      simp [binOp, run_equal_slice_nil w t e a n c hund]
    have hgd : (eqGuard .eql t (.tmp 3) (.const (.slice none 0 0)) (.slice a n c) (.slice none 0 0)).run P w = .ok () w := by
      simp [eqGuard, hund]
    refine .inl (wp_val (v := .slice a n c) (w' := w) (by simp only [List.getElem?_toArray, List.getElem_toArray, List.getElem_cons_zero, execOp, Sem.run_pure]; rfl) ?_)
    show wpOps P _ _ [1] { tmps := #[.slice a n c, undef, .slice none 0 0, .slice a n c, undef, undef, undef, undef], defers := [] } w
    refine .inl (wp_val (v := .bool a.isNone) (w' := w) ?_ ?_)
    · have ev3 : ({ tmps := #[.slice a n c, undef, .slice none 0 0, .slice a n c, undef, undef, undef, undef], defers := [] } : Act).eval (.tmp 3) = .slice a n c := rfl
      have evc : ({ tmps := #[.slice a n c, undef, .slice none 0 0, .slice a n c, undef, undef, undef, undef], defers := [] } : Act).eval (.const (.slice none 0 0)) = .slice none 0 0 := rfl
      show (execOp _ { dst := some 4, op := .binOp .eql t (.tmp 3) (.const (.slice none 0 0)) t, type := b, pos := "slices.go:357", after := #[{ on := 0, ground := .data }], guard := none }).run P w = _
      simp only [execOp, ev3, evc, Sem.run_bind, hgd, Result.andThen_ok, hbin, Sem.run_pure]
    show Code.wp P (Code.cond (Operand.tmp 4) ((cl2 t).seq Code.ret) Code.skip) _ { tmps := #[.slice a n c, undef, .slice none 0 0, .slice a n c, .bool a.isNone, undef, undef, undef], defers := [] } w
    refine wp_cond (t := a.isNone) rfl ?_
    cases a with
    | none =>
      refine wp_seq (wp_region (.inl (wp_val (v := .slice none 0 0) (w' := w) (by simp only [List.getElem?_toArray, List.getElem_toArray, List.getElem_cons_zero, execOp, Sem.run_pure]; rfl) ?_)))
      show Code.wp P Code.ret _ { tmps := #[.slice none n c, undef, .slice none 0 0, .slice none n c, .bool true, undef, undef, undef], defers := [] } w
      refine wp_ret ⟨rfl, .slice none 0 0, ?_, ?_⟩
      · simp [results, hr]
      · have hl0 : l = [] := by
          cases hv with
          | sl0 => rfl
        subst hl0
        obtain ⟨p1, p2, p3⟩ := push_nil hm i.size
        exact ⟨_, _, rfl, p1, fun j hj => by simp at hj, .osl0 p3, by simp⟩
    | some ad =>
      refine wp_skip ?_
      show Code.wp P ((cl3 t).seq Code.ret) _ { tmps := #[.slice (some ad) n c, undef, .slice none 0 0, .slice (some ad) n c, .bool false, undef, undef, undef], defers := [] } w
      let cx0 : Cx := ⟨T, fun _ => false, fun _ _ _ => none⟩
      have hK : KOK P cx0.K := fun f args los los' r h => by cases h
      have hinv : Inv ⟨w.heap.size, A, L, w⟩ g 0 8 [(0, .sl i.size l)] [] { tmps := #[.slice (some ad) n c, undef, .slice none 0 0, .slice (some ad) n c, .bool false, undef, undef, undef], defers := [] } w := by
        refine ⟨g, hm, fun t' => ?_, Nat.le_refl _, rfl, Nat.le_refl _, fun j hj => by omega⟩
        simp only [look]
        split
        · rename_i h0
          obtain rfl := Nat.eq_of_beq_eq_true h0
          rcases hc1 with rfl | rfl
          · exact nil_any hv
          · exact hv
        · exact .dead
      have hex : exec cx0 0 0 ⟨8, fun _ => ⟨false, []⟩, fun _ => none, fun _ => none⟩ ((cl3 t).seq .ret) [(0, .sl i.size l)] [] (kEnd T [] 0 [.tmp 2]) = some (.osl 0, [.arr false i.size l]) := by
        have hb1 : buildSliceS T [] t 0 [] = some (.osl 0, [.arr false i.size []]) := by simp [buildSliceS, hu, hi, pureL]
        have hb2 : appendS T [.arr false i.size []] t t (.osl 0) (.sl i.size l) = some (.osl 1, [.dead, .arr false i.size l]) := by
          have h2 : i.bytes * l.length ≤ 140737488355328 := hc2
          simp [appendS, hu, hi, elems, h2, hc3]
        have hb3 : retV T 0 [.dead, .arr false i.size l] (some [.osl 1]) = some (.osl 0, [.arr false i.size l]) := by
          simp [retV, fixVs, fixV, fixCell, reach, ids2, ids1, okKeep, nodupB, SO.ids, gcO, SO.ren, SO.own, SO.fine, ren2, ren1, ren0, place]
        have e0 : exec cx0 0 0 ⟨8, fun _ => ⟨false, []⟩, fun _ => none, fun _ => none⟩ ((cl3 t).seq .ret) [(0, .sl i.size l)] [] (kEnd T [] 0 [.tmp 2]) =
          Option.bind (buildSliceS T [] t 0 []) fun r1 => Option.bind (appendS T r1.2 t t r1.1 (.sl i.size l)) fun r2 => retV T 0 r2.2 (some [r2.1]) := rfl
        rw [e0, hb1]
        show (Option.bind (appendS T [.arr false i.size []] t t (.osl 0) (.sl i.size l)) fun r2 => retV T 0 r2.2 (some [r2.1])) = _
        rw [hb2]
        exact hb3
      refine wp_mono (exec_sound (c := cx0) (ops_ok hT hK) (draw_ok (ops_ok hT hK) hmix) gc_ok _ _ _ _ _ _ hinv hex) ?_
      intro e' a' w' hq
      obtain ⟨env, os, ⟨g1, m, hs, ht, hd, hl, h0⟩, hk⟩ := hq
      have fin : retS T [] 0 fn.results.toList env os = some (.osl 0, [.arr false i.size l]) → a'.defers = [] ∧ ∃ v, (results fn a'.tmps).run P w' = .ok v w' ∧
          ∃ v' g', Ending.returned v = .returned v' ∧ Mem ⟨w.heap.size, A, L, w⟩ [.arr false i.size l] g' w' ∧ (∀ j, j < ([] : List SO).length → g j ≠ .no → g' j = g j) ∧ RepV w' (Bk ⟨w.heap.size, A, L, w⟩ [.arr false i.size l] g' w') g' (.osl 0) v' ∧ ([] : List SO).length ≤ [SO.arr false i.size l].length := by
        intro hk
        obtain ⟨v, g', r1, r2, r3, r4, r5⟩ := ret_rep hT m hs hk
        exact ⟨hd, v, r1, v, g', rfl, r2, fun j hj => by simp at hj, r4, by simp⟩
      have hrl : fn.results.toList = [.tmp 2] := by rw [hr]
      cases e' with
      | normal => exact fin (by rw [hrl]; exact hk)
      | ret => exact fin (by rw [hrl]; exact hk)
      | exit id => simp [kEnd] at hk
      | goto l => exact hk.elim
      | panic ch => exact hk.elim
      | outgrown => exact hk.elim
  cases hv with
  | sl0 => exact key _ _ _ rfl rfl
  | sl h1 h2 h3 h4 h5 h6 => exact key _ _ _ rfl rfl
end Go.Proofs.Ytlnenahbffkbiaa
