/- The evaluator S and what it says of functions: Tw, Tq, V48, V49. -/
import Derived.Test.YtbagbhbplhkjaaaTv
import Derived.Test.YtbagbhbplhkjaaaV7
import Derived.Test.YtbagbhbplhkjaaaTm
/- impl.copies as S says it: the law. -/
namespace Go.Proofs.Ytbagbhbplhkjaaa
open Go
set_option linter.unusedVariables false
set_option linter.unusedSimpArgs false
set_option maxHeartbeats 4000000
set_option maxRecDepth 100000
def CpI (w : World) (s : List TPkg) (i : Nat) (ov : Value) (wr : World) : Prop := i ≤ s.length ∧ (∃ f ins vs, PkE wr f ins (s.take i) vs ∧ (∀ c, c ∈ ins → w.heap.size ≤ c ∧ c < wr.heap.size) ∧
      ((i = 0 ∧ ov = .slice none 0 0) ∨ ∃ b m, ov = .slice (some ⟨b, 0, none⟩) i m ∧ i ≤ m ∧ CellsAt wr b 0 (flatV vs) ∧ Room wr b (m * 4) 4 ∧ w.heap.size ≤ b ∧ b < wr.heap.size ∧ b ∉ ins)) ∧
      (∀ c, c < w.heap.size → wr.heap[c]? = w.heap[c]?) ∧ w.heap.size ≤ wr.heap.size ∧ SameOut w wr
theorem cp_step {w wr W1 : World} {s : List TPkg} {i f : Nat} {ov pv : Value} {B : Nat → Prop} (hs : lowPkgs s) (hi : i < s.length) (hI : CpI w s i ov wr) (Z1 : wr.heap.size ≤ W1.heap.size) (O1 : ∀ c, c < wr.heap.size → W1.heap[c]? = wr.heap[c]?) (S1 : SameOut wr W1)
    (hf : Ex (fun m => callF prg m f [ePkg (nth s i)] []) (rPkg (nth s i) 0 1) (oPkg (nth s i))) (hpr1 : RepV W1 B G0 (ePkg (nth s i)) pv) (hB : ∀ c, B c → c < W1.heap.size) :
    Calls Try.prog f #[pv] W1 fun e w2 => ∃ a0 a1 a2 a3, e = .returned (.agg #[a0, a1, a2, a3]) ∧
          ∃ v3 w3, (Builtin.append_ #[30, 30] 30 #[ov, .slice (some ⟨w2.heap.size, 0, none⟩) 1 1]).run Try.prog (w2.alloc (.cells #[a0, a1, a2, a3] 69)) = .ok v3 w3 ∧ CpI w s (i + 1) v3 w3 := by
  have hlen := hs.len
  obtain ⟨-, ⟨f0, ins, vs, hp, hin, hov⟩, hw, hz, so⟩ := hI
  have hti : (s.take i).length = i := by rw [List.length_take]; omega
  obtain ⟨p, hpe⟩ : ∃ p, p = nth s i := ⟨_, rfl⟩
  rw [← hpe] at hf hpr1
  refine (pk_in hf hpr1 hB).mono ?_
  rintro e w2 ⟨β1, β2, s1, s2, rfl, i1, i2, n1, n2, n3, u2, z2, t2⟩
  have hE4 : ElOK 4 (pkV p s1 s2) := pk_one i1.one i2.one
  refine ⟨_, _, _, _, rfl, ?_⟩
  obtain ⟨W3, hW3⟩ : ∃ W3, W3 = w2.alloc (.cells #[.int .i64 p.name, .int .i64 p.ver, s1, s2] 69) := ⟨_, rfl⟩
  have C3 : CellsAt W3 w2.heap.size 0 (pkV p s1 s2).cells.toList := by rw [hW3]; exact cells_alloc_new w2 _ _
  have Z3 : W3.heap.size = w2.heap.size + 1 := by rw [hW3]; simp
  have O3 : ∀ c, c < w2.heap.size → W3.heap[c]? = w2.heap[c]? := fun c hc => by rw [hW3]; exact heap_alloc_lt w2 _ c hc
  have S3 : SameOut w2 W3 := by rw [hW3]; exact out_alloc w2 _
  have Oall : ∀ c, c < wr.heap.size → W3.heap[c]? = wr.heap[c]? := fun c hc => (O3 c (by omega)).trans ((u2 c (by omega)).trans (O1 c hc))
  rw [← hW3]
  have hov' : ((s.take i).length = 0 ∧ ov = .slice none 0 0) ∨ ∃ b m, ov = .slice (some ⟨b, 0, none⟩) (s.take i).length m ∧ (s.take i).length ≤ m ∧ CellsAt W3 b 0 (flatV vs) ∧ Room W3 b (m * 4) 4 := by
    rw [hti]
    rcases hov with h | ⟨b, m, q1, q2, q3, q4, q5, q6, q7⟩
    · exact .inl h
    · exact .inr ⟨b, m, q1, q2, q3.heap (Oall b q6), q4.same (Oall b q6)⟩
  obtain ⟨b', m', w3, x1, x2, x3, x4, x5, x6, x7, x8, x9⟩ := snoc_run C3 hE4 hp.len hp.ok (by rw [hti]; omega) hov' (fun b n m e => by
    rcases hov with ⟨-, h⟩ | ⟨b2, m2, q1, q2, q3, q4, q5, q6, q7⟩
    · rw [h] at e; cases e
    · rw [q1] at e; cases e; omega)
  rw [hti] at x1 x2
  have hb' : (b' < wr.heap.size ∧ w.heap.size ≤ b' ∧ b' ∉ ins) ∨ w2.heap.size < b' := by
    rcases x5 with ⟨n, mm, e⟩ | h
    · rcases hov with ⟨-, h⟩ | ⟨b2, m2, q1, q2, q3, q4, q5, q6, q7⟩
      · rw [h] at e; cases e
      · rw [q1] at e; cases e; exact .inl ⟨q6, q5, q7⟩
    · exact .inr (by omega)
  have hwN : w.heap.size ≤ wr.heap.size := hz
  have keep : ∀ c, c < w2.heap.size → c ≠ b' → w3.heap[c]? = w2.heap[c]? := fun c hc hne => (x7 c (by omega) hne).trans (O3 c hc)
  have hnb1 : p.files ≠ [] → β1 ≠ b' := fun h e => by have := n1 h; rcases hb' with h' | h' <;> omega
  have hnb2 : p.deps ≠ [] → β2 ≠ b' := fun h e => by have := n2 h; rcases hb' with h' | h' <;> omega
  have hnbi : ∀ c, c ∈ ins → c ≠ b' := fun c hc e => by
    have := hin c hc
    rcases hb' with h' | h'
    · exact h'.2.2 (e ▸ hc)
    · omega
  refine ⟨_, w3, x1, by omega, ⟨fun j c => if j = i then (if c = 2 then β1 else β2) else f0 j c, (if p.files = [] then [] else [β1]) ++ (if p.deps = [] then [] else [β2]) ++ ins, vs ++ [pkV p s1 s2], ?_, ?_, .inr ⟨b', m', rfl, x2, x3, x4, ?_, x6, ?_⟩⟩, fun c hc => ?_, by omega, ((so.trans S1).trans t2).trans (S3.trans x9)⟩
  · rw [take_nth hi, ← hpe]
    refine hp.snoc (fun j c hj => if_neg (by rw [hti] at hj; exact hj)) ?_ ?_ ?_ (fun c hc => by simp [hc]) (fun h => by simp [h, hti]) (fun h => by simp [h, hti]) ?_ ?_
    · intro j c hn
      have hc := hp.mem _ _ hn
      have := hin _ hc
      exact (keep _ (by omega) (hnbi _ hc)).trans ((u2 _ (by omega)).trans (O1 _ (by omega)))
    · rw [hti]
      show In _ (if i = i then (if 2 = 2 then β1 else β2) else f0 i 2) _ _
      rw [if_pos rfl, if_pos rfl]
      exact i1.heap fun h => keep _ (n1 (ne_files.1 h)).2 (hnb1 (ne_files.1 h))
    · rw [hti]
      show In _ (if i = i then (if 3 = 2 then β1 else β2) else f0 i 3) _ _
      rw [if_pos rfl, if_neg (by decide)]
      exact i2.heap fun h => keep _ (n2 (ne_deps.1 h)).2 (hnb2 (ne_deps.1 h))
    · intro j c hn
      have := (hin _ (hp.mem _ _ hn)).2
      rw [hti]
      refine ⟨fun h => ?_, fun h => ?_⟩
      · have := (n1 h).1
        simp only [if_true]; omega
      · have := (n2 h).1
        simp only [if_true]
        rw [if_neg (by decide)]; omega
    · intro h h'
      rw [hti]
      simp only [if_true]
      rw [if_neg (by decide)]
      exact n3 h h'
  · intro c hc
    simp only [List.mem_append] at hc
    rcases hc with (h | h) | h
    · split at h
      · cases h
      · rename_i q; have := n1 q; simp at h; omega
    · split at h
      · cases h
      · rename_i q; have := n2 q; simp at h; omega
    · have := hin _ h; omega
  · rcases hb' with h' | h' <;> omega
  · intro h
    simp only [List.mem_append] at h
    rcases h with (h | h) | h
    · split at h
      · cases h
      · rename_i q; simp at h; exact hnb1 q h.symm
    · split at h
      · cases h
      · rename_i q; simp at h; exact hnb2 q h.symm
    · exact hnbi _ h rfl
  · have hcb : c ≠ b' := fun e => by rcases hb' with h' | h' <;> omega
    rw [keep c (by omega) hcb, u2 c (by omega), O1 c (by omega)]
    exact hw c hc
theorem cp_end {A L : Nat → Prop} {g : Nat → Gh} {w w' : World} {s : List TPkg} {ov : Value} (hse : s ≠ []) (h : CpI w s s.length ov w') :
    ∃ v g', Ending.returned ov = .returned v ∧ Mem ⟨w.heap.size, A, L, w⟩ [.nst false 4 (s.map ePkg)] g' w' ∧ (∀ j, j < ([] : List SO).length → g j ≠ .no → g' j = g j) ∧ RepV w' (Bk ⟨w.heap.size, A, L, w⟩ [.nst false 4 (s.map ePkg)] g' w') g' (.osl 0) v ∧ ([] : List SO).length ≤ [SO.nst false 4 (s.map ePkg)].length := by
  have hn0 : 0 < s.length := List.length_pos_iff.2 hse
  obtain ⟨-, ⟨f, ins, vs, hp, hin, hov⟩, hw, hz, so⟩ := h
  rcases hov with ⟨h, -⟩ | ⟨b, m, rfl, q2, q3, q4, q5, q6, q7⟩
  · omega
  rw [List.take_length] at hp
  have hg : gOne (.nst b 4 s.length m ins) 0 = .nst b 4 s.length m ins := rfl
  refine ⟨_, gOne (.nst b 4 s.length m ins), rfl, ?_, fun j hj => absurd hj (Nat.not_lt_zero _), .osln hg, Nat.zero_le _⟩
  exact
    { objs := fun j o h => by obtain ⟨rfl, rfl⟩ := one_get h; exact (hp.full q2 q3 q4 q7).obj hg false _
      fresh := fun j hj => if_neg (by simp at hj; omega)
      inj := fun i j oi oj b hi hj _ _ _ _ => by rw [(one_get hi).1, (one_get hj).1]
      own := fun c hc => by
        obtain ⟨j, o, h, -, hh⟩ := hc
        obtain ⟨rfl, rfl⟩ := one_get h
        rcases hh with rfl | hh
        · exact ⟨q6, fun h => absurd h (by dsimp only; omega)⟩
        · have := hin _ hh
          exact ⟨this.2, fun h => absurd h (by dsimp only; omega)⟩
      mine := fun j sz l b h _ => by cases (one_get h).2
      frame := fun c hc _ => hw c hc
      size := hz
      out := so }
theorem cp_arg {w : World} {B : Nat → Prop} {g : Nat → Gh} {s : List TPkg} {v0 : Value} (hse : s ≠ []) (h0 : RepV w B g (.sl 4 (s.map ePkg)) v0) :
    ∃ ab ao c vsA, v0 = .slice (some ⟨ab, ao, none⟩) s.length c ∧ RepL w B G0 (s.map ePkg) vsA ∧ (∀ v : Value, v ∈ vsA → ElOK 4 v) ∧ CellsAt w ab ao (flatV vsA) ∧ B ab := by
  obtain ⟨l, hl⟩ : ∃ l, l = s.map ePkg := ⟨_, rfl⟩
  have hll : l.length = s.length := by rw [hl, List.length_map]
  rw [← hl] at h0 ⊢
  cases h0 with
  | sl0 => exact absurd (List.map_eq_nil_iff.1 hl.symm) hse
  | sl a1 a2 a3 a4 a5 a6 => exact ⟨_, _, _, _, by rw [hll], ⟨a1, a2⟩, a3, a4, a5⟩
theorem copies_ok : KOK1 Try.prog 42 (relF CopR) := by
  intro args los los' r h
  refine ⟨⟨_, _, Try.func42, by kernel_rfl, rfl⟩, ?_⟩
  obtain ⟨s, hs, rfl, rfl, rfl, rfl⟩ := relF_some h
  intro A L g vals w hL hm ha
  obtain ⟨v0, vals, rfl, h0, ha⟩ := ha.uncons
  obtain rfl : vals = [] := by have := ha.1; cases vals <;> simp at this ⊢
  by_cases hse : s = []
  · subst hse
    obtain ⟨n0, hn0⟩ := s_copies0
    obtain ⟨-, hk⟩ := callF_ok prgR n0 _ _ _ _ _ (hn0 n0 (Nat.le_refl _))
    refine (hk A L g [v0] w hL hm (RepL.cons h0 RepL.nil)).mono ?_
    rintro e w' ⟨v, g', rfl, m, -, hr, -⟩
    obtain ⟨g2, m2, r2⟩ := arr_nst0 m hr
    exact ⟨v, g2, rfl, m2, fun j hj => absurd hj (Nat.not_lt_zero _), r2, Nat.zero_le _⟩
  obtain ⟨ab, ao, c, vsA, rfl, hA, hE, hC, hB⟩ := cp_arg hse h0
  have hlen := hs.len
  have hNB : ∀ c, Bk ⟨w.heap.size, A, L, w⟩ [] g w c → c < w.heap.size := fun c hc => hc.1
  refine (copies_walk (I := CpI w s) hlen
    ⟨Nat.zero_le _, ⟨fun _ _ => 0, [], [], pkE_nil w _, fun c hc => absurd hc List.not_mem_nil, .inl ⟨rfl, rfl⟩⟩, fun _ _ => rfl, Nat.le_refl _, SameOut.refl _⟩ ?_).mono ?_
  · intro i ov wr hi hI
    obtain ⟨-, -, hw, hz, so⟩ := id hI
    obtain ⟨pv, hpv, hpr⟩ := hA.get (get_map (e := ePkg) hi)
    have hcell := flatV_elem hE hpv hC
    have hlow := hs.2 i hi
    unfold lowPkg at hlow
    have hpr' : RepV wr (Bk ⟨w.heap.size, A, L, w⟩ [] g w) G0 (ePkg (nth s i)) pv := hpr.mono (fun _ h => h) (fun c hc => hw c (hNB c hc)) G0 (fun _ h => h.elim rfl)
    have hpe4 : ElOK 4 pv := hE pv (List.mem_of_getElem? hpv)
    have hpl : pv.cells.toList.length = 4 := by have := hpe4.1; simpa using this
    obtain ⟨W0, hW0⟩ : ∃ W0, W0 = wr.alloc (.cells #[.int .i64 0, .int .i64 0, .slice none 0 0, .slice none 0 0] 69) := ⟨_, rfl⟩
    have R0 : Room W0 wr.heap.size 4 1 := by rw [hW0]; exact room_alloc_new wr _ _ _ (by simp)
    have C0 : CellsAt W0 wr.heap.size 0 [.int .i64 0, .int .i64 0, .slice none 0 0, .slice none 0 0] := by rw [hW0]; exact cells_alloc_new wr _ _
    have Z0 : W0.heap.size = wr.heap.size + 1 := by rw [hW0]; simp
    have O0 : ∀ c, c < wr.heap.size → W0.heap[c]? = wr.heap[c]? := fun c hc => by rw [hW0]; exact heap_alloc_lt wr _ c hc
    have S0 : SameOut wr W0 := by rw [hW0]; exact out_alloc wr _
    rw [← hW0]
    have C1 : CellsAt (W0.setCells wr.heap.size 0 pv.cells.toList) wr.heap.size 0 pv.cells.toList := by
      have := cells_setCells (o := 0) (vs := pv.cells.toList) R0 C0 (Nat.zero_le _) (by omega)
      rw [List.take_zero, List.nil_append, List.drop_eq_nil_of_le (by rw [hpl]; simp), List.append_nil] at this
      exact this
    obtain ⟨W1, hW1⟩ : ∃ W1, W1 = W0.setCells wr.heap.size 0 pv.cells.toList := ⟨_, rfl⟩
    have Z1 : W1.heap.size = wr.heap.size + 1 := by rw [hW1, size_setCells]; exact Z0
    have O1 : ∀ c, c < wr.heap.size → W1.heap[c]? = wr.heap[c]? := fun c hc => by rw [hW1, heap_setCells_ne _ c (by omega)]; exact O0 c hc
    have S1 : SameOut wr W1 := by rw [hW1]; exact S0.trans (out_setCells _ _ _ _)
    rw [← hW1] at C1
    have hag : ∃ a0 a1 a2 a3, pv = .agg #[a0, a1, a2, a3] := by
      obtain ⟨v0, v1, v2, v3, e, -⟩ := ag4 hpr
      exact ⟨_, _, _, _, e⟩
    refine ⟨pv, ?_, W1, ?_, ?_, ?_⟩
    · obtain ⟨a0, a1, a2, a3, rfl⟩ := hag
      exact (run_loadAt (tabR.ti 69 _ rfl) (hcell.heap (hw _ (hNB _ hB))) (Nat.le_refl _)).1 rfl
    · rw [hW1]
      exact run_storeVar (tabR.ti 69 _ rfl) R0 hpe4.1 (by rw [hpe4.1]; omega) hpe4.2
    · obtain ⟨a0, a1, a2, a3, rfl⟩ := hag
      exact (run_loadAt (tabR.ti 69 _ rfl) C1 (Nat.le_refl _)).1 rfl
    · have hpr1 : RepV W1 (Bk ⟨w.heap.size, A, L, w⟩ [] g w) G0 (ePkg (nth s i)) pv := hpr'.mono (fun _ h => h) (fun c hc => O1 c (by have := hNB c hc; omega)) G0 (fun _ h => h.elim rfl)
      exact cp_step hs hi hI (by omega) O1 S1 (s_copiedPkg _ _ _ _ (by omega) (by omega)) hpr1 (fun c hc => by have := hNB c hc; omega)
  · rintro e w' ⟨ov, rfl, hI⟩
    exact cp_end hse hI
theorem s_l12Copy0 : Ex (fun m => callF prg m 36 [.sl 4 []] []) (.osl 0) [.arr false 4 []] := by
  refine ev_is.1 ?_
  (refine U36 (nl := 0) rfl ?_; unfold B36)
  repeat' (first | ((with_reducible refine eG ?_); first | (with_reducible first | refine ev_gtt ?_ | refine ev_gff ?_ | refine ev_gtf ?_ | refine ev_gft ?_ | refine ev_gu ?_) | refine ev_bd rfl ?_ | refine ev_bd0 rfl ?_ | ((with_reducible refine ev_gB ?_ ?_) <;> intro h)) | ((with_reducible refine eB ?_); first | ((with_reducible first | refine ev_lss ?_ ?_ | refine ev_leq ?_ ?_ | refine ev_gtr ?_ ?_ | refine ev_geq ?_ ?_ | refine ev_eql ?_ ?_ | refine ev_neq ?_ ?_) <;> intro h <;> try (exfalso; omega)) | ((with_reducible first | refine ev_add ?_ ?_ | refine ev_sub ?_ ?_ | refine ev_mul ?_ ?_); · omega) | ((with_reducible refine ev_quo ?_ ?_ ?_); (· omega); (· omega); intro x hx hx0 hx1) | ((with_reducible refine ev_rem ?_ ?_); (· omega); intro x hx hx0 hx1) | ((with_reducible first | refine ev_eql3 ?_ ?_ ?_ | refine ev_neq3 ?_ ?_ ?_ | refine ev_eql2 ?_ ?_ ?_ | refine ev_neq2 ?_ ?_ ?_); (· rfl); all_goals intro h) | refine ev_bd rfl ?_ | refine ev_bd0 rfl ?_) | ((with_reducible refine eL ?_); first | ((with_reducible refine ev_lenm ?_ ?_); · rfl) | refine ev_lenom rfl rfl ?_ | refine ev_lenoc rfl rfl rfl ?_ | refine ev_lenc rfl rfl ?_ | refine ev_leno rfl rfl ?_ | refine ev_slen rfl ?_ | refine ev_bd rfl ?_ | refine ev_bd0 rfl ?_) | ((with_reducible refine eI ?_); first | ((with_reducible refine ev_idx ?_ ?_ ?_); (· rfl); · omega) | (refine ev_idxo rfl rfl ?_ ?_; (· first | omega | (simp only [List.length_cons, List.length_nil, List.length_map, List.length_append]; omega))) | refine ev_bd rfl ?_ | refine ev_bd0 rfl ?_) | ((with_reducible refine eS ?_); first | ((with_reducible first | refine ev_slh ?_ ?_ ?_ | refine ev_sll ?_ ?_ ?_); (· rfl); · omega) | ((first | refine ev_slvh rfl rfl ?_ ?_ | refine ev_slvl rfl rfl ?_ ?_); (· first | omega | (simp only [List.length_cons, List.length_nil, List.length_map, List.length_append]; omega))) | refine ev_bd rfl ?_ | refine ev_bd0 rfl ?_) | ((with_reducible refine eC ?_); first | fail) | ((with_reducible refine eA ?_); first | (refine ev_app rfl rfl rfl rfl rfl ?_ ?_; · first | decide | (simp only [List.length_append, List.length_cons, List.length_nil, List.length_map, List.length_take, List.length_drop]; omega))) | ((with_reducible refine eV ?_); first | ((with_reducible refine ev_conv64 ?_ ?_ ?_ ?_); (· rfl); (· rfl); · omega) | refine ev_bd rfl ?_ | refine ev_bd0 rfl ?_) | ((with_reducible refine eK ?_); first | (with_reducible first | refine ev_ct ?_ | refine ev_cf ?_) | ((with_reducible refine ev_cond ?_ ?_) <;> intro h)) | ((with_reducible refine eO ?_); first | refine ev_bd rfl ?_ | (refine ev_bdB rfl ?_ ?_ <;> intro h <;> try (exfalso; simp_all; done)) | refine ev_bd0 rfl ?_ | (refine ev_ldz rfl rfl rfl ?_ ?_ ?_; (· simp); (· first | omega | (simp only [List.length_cons, List.length_nil, List.length_map, List.length_append]; omega)); intro w)) | ((with_reducible refine eD ?_); first | refine ev_bd rfl ?_ | refine ev_bd0 rfl ?_ | ((with_reducible refine ev_pickB ?_ ?_) <;> intro h)) | ((with_reducible refine ev_dchk ?_ ?_); · intro _; rfl) | ((with_reducible first | refine UL36_3 ?_ | refine VL36_3 ?_); (unfold LB36_3)) | refine ev_ret rfl ?_)
  all_goals first | exact ⟨rfl, rfl⟩ | (exfalso; omega) | trace_state
theorem l12_walk {I : Nat → Value → World → Prop} {n c ab ao : Nat} {w : World} (hn : n ≤ 2000000) (h0 : I 0 (.slice (some ⟨w.heap.size, 0, none⟩) 0 0) (w.alloc (.cells #[] 69)))
    (step : ∀ i ov wr, i < n → I i ov wr → ∃ pv, (Instr.loadAt 69 (.pointer (some ⟨ab, ao + i * 4, none⟩))).run Try.prog wr = .ok pv wr ∧
        Calls Try.prog 55 #[pv] wr fun e w2 => ∃ a0 a1 a2 a3, e = .returned (.agg #[a0, a1, a2, a3]) ∧
          ∃ v3 w3, (Builtin.append_ #[30, 30] 30 #[ov, .slice (some ⟨w2.heap.size, 0, none⟩) 1 1]).run Try.prog (w2.alloc (.cells #[a0, a1, a2, a3] 69)) = .ok v3 w3 ∧ I (i + 1) v3 w3) :
    Calls Try.prog 36 #[.slice (some ⟨ab, ao, none⟩) n c] w fun e w' => ∃ ov, e = .returned ov ∧ I n ov w' := by
  have mixed : Try.prog.follows .mixedOrders = true := by kernel_rfl
  go_enter Try.func36, Try.ntmps36
  go_wp2
  go_loopw [3, 4] (fun ov i wr => ∃ (j : Nat), j ≤ n ∧ i = .int .i64 j ∧ I j ov wr) (fun _ i _ => n - (RowKit.intOf i).toNat)
  case atStart => exact ⟨0, Nat.zero_le _, rfl, h0⟩
  case round =>
    obtain ⟨j, hj, rfl, hI⟩ := hrel
    by_cases hjn : j < n
    · obtain ⟨pv, e1, e4⟩ := step j _ wr hjn hI
      clear step h0 hI
      go_wp2_with (first
        | (refine wpList_ld rfl 69 (.tmp 15) rfl _ pv rfl e1 ?_)
        | (go_at_call 55; refine e4.mono ?_; rintro e w2 ⟨a0, a1, a2, a3, rfl, v3, w3, e5, f1⟩)
        | (at_builtin; refine Lib.wpList_append_run _ rfl _ _ _ _ rfl _ _ rfl rfl _ _ e5 ?_))
      go_roundw
      case rel => exact ⟨j + 1, by omega, by go_num, f1⟩
      case measure => simp [RowKit.intOf]; omega
    · go_wp2
      obtain rfl : j = n := by omega
      go_ret
      exact ⟨_, rfl, hI⟩
theorem l12Copy_ok : KOK1 Try.prog 36 (relF CopR) := by
  intro args los los' r h
  refine ⟨⟨_, _, Try.func36, by kernel_rfl, rfl⟩, ?_⟩
  obtain ⟨s, hs, rfl, rfl, rfl, rfl⟩ := relF_some h
  intro A L g vals w hL hm ha
  obtain ⟨v0, vals, rfl, h0, ha⟩ := ha.uncons
  obtain rfl : vals = [] := by have := ha.1; cases vals <;> simp at this ⊢
  by_cases hse : s = []
  · subst hse
    obtain ⟨n0, hn0⟩ := s_l12Copy0
    obtain ⟨-, hk⟩ := callF_ok prgR n0 _ _ _ _ _ (hn0 n0 (Nat.le_refl _))
    refine (hk A L g [v0] w hL hm (RepL.cons h0 RepL.nil)).mono ?_
    rintro e w' ⟨v, g', rfl, m, -, hr, -⟩
    obtain ⟨g2, m2, r2⟩ := arr_nst0 m hr
    exact ⟨v, g2, rfl, m2, fun j hj => absurd hj (Nat.not_lt_zero _), r2, Nat.zero_le _⟩
  obtain ⟨ab, ao, c, vsA, rfl, hA, hE, hC, hB⟩ := cp_arg hse h0
  have hlen := hs.len
  have hNB : ∀ c, Bk ⟨w.heap.size, A, L, w⟩ [] g w c → c < w.heap.size := fun c hc => hc.1
  refine (l12_walk (I := CpI w s) hlen
    ⟨Nat.zero_le _, ⟨fun _ _ => 0, [], [], pkE_nil _ _, fun c hc => absurd hc List.not_mem_nil, .inr ⟨w.heap.size, 0, rfl, Nat.le_refl _, fun k v hk => by simp [flatV] at hk, room_alloc_new w _ _ _ (by simp), Nat.le_refl _, by simp, List.not_mem_nil⟩⟩, fun c hc => heap_alloc_lt w _ c hc, by simp, out_alloc w _⟩ ?_).mono ?_
  · intro i ov wr hi hI
    obtain ⟨-, -, hw, hz, so⟩ := id hI
    obtain ⟨pv, hpv, hpr⟩ := hA.get (get_map (e := ePkg) hi)
    have hcell := flatV_elem hE hpv hC
    have hlow := hs.2 i hi
    unfold lowPkg at hlow
    have hpr' : RepV wr (Bk ⟨w.heap.size, A, L, w⟩ [] g w) G0 (ePkg (nth s i)) pv := hpr.mono (fun _ h => h) (fun c hc => hw c (hNB c hc)) G0 (fun _ h => h.elim rfl)
    have hag : ∃ a0 a1 a2 a3, pv = .agg #[a0, a1, a2, a3] := by
      obtain ⟨v0, v1, v2, v3, e, -⟩ := ag4 hpr
      exact ⟨_, _, _, _, e⟩
    refine ⟨pv, ?_, ?_⟩
    · obtain ⟨a0, a1, a2, a3, rfl⟩ := hag
      exact (run_loadAt (tabR.ti 69 _ rfl) (hcell.heap (hw _ (hNB _ hB))) (Nat.le_refl _)).1 rfl
    · exact cp_step hs hi hI (Nat.le_refl _) (fun _ _ => rfl) (SameOut.refl _) (s_l12PkgCopy _ _ _ _ (by omega) (by omega)) hpr' (fun c hc => by have := hNB c hc; omega)
  · rintro e w' ⟨ov, rfl, hI⟩
    exact cp_end hse hI
end Go.Proofs.Ytbagbhbplhkjaaa

/- A second program of S: the functions of the laws that handle arrays of packages, on top of what all others answer. -/
namespace Go.Proofs.Ytbagbhbplhkjaaa
open Go
set_option linter.unusedVariables false
set_option linter.unusedSimpArgs false
set_option maxHeartbeats 4000000
set_option maxRecDepth 100000
noncomputable def limF (f : Nat) : List SV → List SO → Out := relF fun args os r los => Ex (fun n => callF prg n f args os) r los
theorem ex_one {A : Nat → Out} {x y : SV} {os ps : List SO} (h : Ex A x os) (h' : Ex A y ps) : x = y ∧ os = ps := by
  obtain ⟨n, h⟩ := h
  obtain ⟨m, h'⟩ := h'
  have := (h (n + m) (by omega)).symm.trans (h' (n + m) (by omega))
  cases this
  exact ⟨rfl, rfl⟩
theorem lim_ex {f : Nat} {args : List SV} {os los : List SO} {r : SV} (h : Ex (fun n => callF prg n f args os) r los) : limF f args os = some (r, los) := by
  obtain ⟨r', los', h1, h2⟩ := relF_of (R := fun args os r los => Ex (fun n => callF prg n f args os) r los) h
  obtain ⟨rfl, rfl⟩ := ex_one h h2
  exact h1
theorem lim_ok (f : Nat) : KOK1 Try.prog f (limF f) := by
  intro args los los' r h
  obtain ⟨n0, h0⟩ : Ex (fun n => callF prg n f args los) r los' := relF_some h
  exact callF_ok prgR n0 f args los los' r (h0 n0 (Nat.le_refl _))
def open2 (f : Nat) : Bool := Nat.beq f 3 || Nat.beq f 7 || Nat.beq f 8 || Nat.beq f 12 || Nat.beq f 13 || Nat.beq f 9 || Nat.beq f 25 || Nat.beq f 26 || Nat.beq f 6 || Nat.beq f 20 || Nat.beq f 19
noncomputable def prim2 (f : Nat) : Option (List SV → List SO → Out) :=
  match open2 f with
  | true => none
  | false =>
    match Nat.beq f 21 with
    | true => some (relF ToR)
    | false =>
      match Nat.beq f 29 with
      | true => some (relF MarkR)
      | false => (match Nat.beq f 42 with | true => some (relF CopR) | false => (match Nat.beq f 36 with | true => some (relF CopR) | false => some (limF f)))
noncomputable def prg2 : Prg := { T := tab, own := ownF, pur := purF, code := fun f => (codeL[f]?).getD none, fi := fun f => (fiL[f]?).getD ⟨0, fun _ => ⟨false, []⟩, fun _ => none, fun _ => none⟩, prim := prim2 }
theorem prgR2 : PrgOK Try.prog prg2 where
  tab := tabR
  code := prgR.code
  prim := fun f q h => by
    have h' : prim2 f = some q := h
    unfold prim2 at h'
    split at h'
    · cases h'
    · split at h'
      · rename_i e; cases h'; rw [Nat.eq_of_beq_eq_true e]; exact to_ok
      · split at h'
        · rename_i e; cases h'; rw [Nat.eq_of_beq_eq_true e]; exact mark_ok
        · split at h'
          · rename_i e; cases h'; rw [Nat.eq_of_beq_eq_true e]; exact copies_ok
          · split at h'
            · rename_i e; cases h'; rw [Nat.eq_of_beq_eq_true e]; exact l12Copy_ok
            · cases h'; exact lim_ok f
  mix := prgR.mix
def shut2 (f : Nat) : Bool := !open2 f && !Nat.beq f 21 && !Nat.beq f 29 && !Nat.beq f 42 && !Nat.beq f 36
theorem prim_call {f : Nat} {q : List SV → List SO → Out} (h : prim2 f = some q) (n : Nat) (args : List SV) (os : List SO) : callF prg2 (n + 1) f args os = q args os := by
  have h' : prg2.prim f = some q := h
  simp only [callF, h']
theorem ex_prim {f : Nat} {q : List SV → List SO → Out} (h : prim2 f = some q) {args : List SV} {os los : List SO} {r : SV} (hq : q args os = some (r, los)) : Ex (fun n => callF prg2 n f args os) r los := ⟨1, fun n hn => by
  obtain ⟨m, rfl⟩ : ∃ m, n = m + 1 := ⟨n - 1, by omega⟩
  exact (prim_call h m args os).trans hq⟩
theorem lift {f : Nat} {args : List SV} {os los : List SO} {r : SV} (h : Ex (fun n => callF prg n f args os) r los) (hf : shut2 f = true) : Ex (fun n => callF prg2 n f args os) r los := by
  refine ex_prim (q := limF f) ?_ (lim_ex h)
  unfold shut2 at hf
  simp only [Bool.and_eq_true, Bool.not_eq_true'] at hf
  obtain ⟨⟨⟨⟨h1, h2⟩, h3⟩, h4⟩, h5⟩ := hf
  unfold prim2
  rw [h1, h2, h3, h4, h5]
theorem s_toPkgSN (s : List TPkg) (hs : lowPkgs s) : Ex (fun n => callF prg2 n 21 [.sl 4 (s.map ePkg)] []) (.osl 0) [.nst false 4 (s.map ePkg)] := by
  obtain ⟨r, los, h1, s', -, e1, -, rfl, rfl⟩ := relF_of (R := ToR) ⟨s, hs, rfl, rfl, rfl, rfl⟩
  have e2 : s.map ePkg = s'.map ePkg := by injection e1 with e1; injection e1
  rw [← e2] at h1
  exact ex_prim (q := relF ToR) rfl h1
theorem eFile_inj {a b : TFile} (h : eFile a = eFile b) : a = b := by cases a; cases b; simp at h; simp [h]
theorem eDep_inj {a b : TDep} (h : eDep a = eDep b) : a = b := by cases a; cases b; simp at h; simp [h]
theorem map_inj' {α : Type} {f : α → SV} (hf : ∀ a b, f a = f b → a = b) : ∀ {l l' : List α}, l.map f = l'.map f → l = l'
  | [], [], _ => rfl
  | [], _ :: _, h => by cases h
  | _ :: _, [], h => by cases h
  | a :: l, b :: l', h => by
    simp only [List.map_cons, List.cons.injEq] at h
    rw [hf _ _ h.1, map_inj' hf h.2]
theorem ePkg_inj {a b : TPkg} (h : ePkg a = ePkg b) : a = b := by
  cases a; cases b
  simp only [ePkg, SV.ag.injEq, List.cons.injEq, SV.v.injEq, Value.int.injEq, SV.sl.injEq, and_true, true_and] at h
  obtain ⟨h1, h2, h3, h4⟩ := h
  rw [h1, h2, map_inj' (fun _ _ => eFile_inj) h3, map_inj' (fun _ _ => eDep_inj) h4]
theorem s_markPkgSN (s : List TPkg) (hs : lowPkgs s) (k : Int) (hk : 0 ≤ k ∧ k ≤ 100000000000000) : Ex (fun n => callF prg2 n 29 [.osl 0, iI k] [.nst true 4 (s.map ePkg)]) (iI (kAt s k s.length)) [.nst true 4 ((mkS s k s.length).map ePkg)] := by
  obtain ⟨r, los, h1, ⟨s', k', hs', hk0, hk1, e1, e2, rfl, rfl⟩ | ⟨k', e1, e2, rfl, rfl⟩⟩ := relF_of (R := MarkR) (.inl ⟨s, k, hs, hk.1, hk.2, rfl, rfl, rfl, rfl⟩)
  · obtain rfl : s = s' := map_inj' (fun _ _ => ePkg_inj) (by injection e2 with e2; injection e2)
    obtain rfl : k = k' := by injection e1 with e1 e3; injection e3 with e3; injection e3 with e3; injection e3
    exact ex_prim (q := relF MarkR) rfl h1
  · cases e2
theorem s_markPkgSN0 (k : Int) : Ex (fun n => callF prg2 n 29 [.osl 0, iI k] [.arr true 4 []]) (iI k) [.arr true 4 []] := by
  obtain ⟨r, los, h1, ⟨s', k', hs', hk0, hk1, e1, e2, rfl, rfl⟩ | ⟨k', e1, e2, rfl, rfl⟩⟩ := relF_of (R := MarkR) (.inr ⟨k, rfl, rfl, rfl, rfl⟩)
  · cases e2
  · obtain rfl : k = k' := by injection e1 with e1 e3; injection e3 with e3; injection e3 with e3; injection e3
    exact ex_prim (q := relF MarkR) rfl h1
theorem kAt_rng {s : List TPkg} (hs : lowPkgs s) {k : Int} (hk : 0 ≤ k) : k ≤ kAt s k s.length ∧ kAt s k s.length ≤ k + 5000000000000 := by
  have h2 := kAt_bd hs hk s.length (Nat.le_refl _)
  have h3 := hs.1
  omega
theorem s_l12CopyN (s : List TPkg) (hs : lowPkgs s) : Ex (fun n => callF prg2 n 36 [.sl 4 (s.map ePkg)] []) (.osl 0) [.nst false 4 (s.map ePkg)] := by
  obtain ⟨r, los, h1, s', -, e1, -, rfl, rfl⟩ := relF_of (R := CopR) ⟨s, hs, rfl, rfl, rfl, rfl⟩
  have e2 : s.map ePkg = s'.map ePkg := by injection e1 with e1; injection e1
  rw [← e2] at h1
  exact ex_prim (q := relF CopR) rfl h1
theorem s_copiesN (s : List TPkg) (hs : lowPkgs s) : Ex (fun n => callF prg2 n 42 [.sl 4 (s.map ePkg)] []) (.osl 0) [.nst false 4 (s.map ePkg)] := by
  obtain ⟨r, los, h1, s', -, e1, -, rfl, rfl⟩ := relF_of (R := CopR) ⟨s, hs, rfl, rfl, rfl, rfl⟩
  have e2 : s.map ePkg = s'.map ePkg := by injection e1 with e1; injection e1
  rw [← e2] at h1
  exact ex_prim (q := relF CopR) rfl h1
theorem ev_true2 {k : Nat} {args : List SV} (h : Ev (fun n => callF prg2 n k args []) fun x _ => x = .v (.bool true)) : ∃ n los, callF prg2 n k args [] = some (.v (.bool true), los) := by
  obtain ⟨x, os, rfl, n0, h0⟩ := h
  exact ⟨n0, os, h0 n0 (Nat.le_refl _)⟩
end Go.Proofs.Ytbagbhbplhkjaaa

/- The exact laws' functions over disks and steps, with arrays of packages. -/
namespace Go.Proofs.Ytbagbhbplhkjaaa
open Go
set_option linter.unusedVariables false
set_option linter.unusedSimpArgs false
set_option maxHeartbeats 4000000
set_option maxRecDepth 100000
theorem s_heldPkgS_L (s : List TPkg) (hs : lowPkgs s) (k0 : Int) (hk0 : 0 ≤ k0 ∧ k0 ≤ 100000000000000) (M : List TPkg) (hM : M = mkS s k0 s.length) : ∀ i, i ≤ s.length → ∀ (q k : Int) (c : Nat), k = i → q = kAt s k0 i →
    Ev (fun n => L31_2 (callF prg n) (n + 1) 0 (n + 1 - c) (.sl 4 (M.map ePkg)) (iI q) (iI k) []) (Is (iI (kAt s k0 s.length)) []) := by
  have hMl : M.length = s.length := by rw [hM, mkS_len]
  have hsl := hs.1
  refine up_ind ?_
  intro i hi ih q k c hk hq
  subst hk
  have hb := kAt_bd hs hk0.1 i hi
  by_cases hi2 : i < s.length
  · have hl := hs.2 i hi2
    unfold lowPkg at hl
    have hn : nth M i = mkP (nth s i) q := by rw [hM, hq]; exact mkS_done s k0 _ i hi2 (Nat.le_refl _)
    have h1 : (nth M i).name = q := by rw [hn]; rfl
    have h2 : (nth M i).ver = q + 1 := by rw [hn]; rfl
    have hF : Ex (fun n => callF prg n 47 [.sl 2 ((nth M i).files.map eFile), iI (q + 1 + 1)] []) (iI (q + 1 + 1 + 2 * (nth s i).files.length)) [] := by
      rw [hn]; exact s_heldFileS (q + 1 + 1) (by omega) _ (by omega)
    have hD : Ex (fun n => callF prg n 48 [.sl 2 ((nth M i).deps.map eDep), iI (q + 1 + 1 + 2 * (nth s i).files.length)] []) (iI (q + 1 + 1 + 2 * (nth s i).files.length + 2 * (nth s i).deps.length)) [] := by
      rw [hn]; exact s_heldDepS (q + 1 + 1 + 2 * (nth s i).files.length) (by omega) _ (by omega)
    (refine UL31_2 ?_; unfold LB31_2)
    repeat' (first | ((with_reducible refine eB ?_); first | ((with_reducible first | refine ev_lss ?_ ?_ | refine ev_neq ?_ ?_) <;> intro h <;> try (exfalso; omega)) | ((with_reducible refine ev_add ?_ ?_); · omega) | refine ev_bd rfl ?_ | refine ev_bd0 rfl ?_) | ((with_reducible refine eL ?_); first | ((with_reducible refine ev_lenm ?_ ?_); · rfl) | refine ev_lenom rfl rfl ?_ | refine ev_lenfm rfl rfl ?_ | refine ev_lenoc rfl rfl rfl ?_ | refine ev_lenc rfl rfl ?_ | refine ev_leno rfl rfl ?_ | refine ev_slen rfl ?_ | refine ev_bd rfl ?_ | refine ev_bd0 rfl ?_) | ((with_reducible refine eI ?_); first | ((with_reducible refine ev_idxn ?_ ?_ ?_); (· rfl); · omega) | (refine ev_idxon rfl rfl ?_ ?_; (· first | omega | (simp only [List.length_cons, List.length_nil, List.length_map, List.length_append]; omega))) | (refine ev_idxfn rfl rfl ?_ ?_; (focus omega)) | ((with_reducible refine ev_idx ?_ ?_ ?_); (· rfl); · omega) | (refine ev_idxo rfl rfl ?_ ?_; (· first | omega | (simp only [List.length_cons, List.length_nil, List.length_map, List.length_append]; omega))) | (refine ev_idxf rfl rfl ?_ ?_; (focus omega)) | refine ev_bd rfl ?_ | refine ev_bd0 rfl ?_) | ((with_reducible refine eC ?_); first | ((refine ev_call (hF ..) rfl rfl ?_ rfl ?_); (focus first | exact .inl rfl | exact .inr rfl | (refine .inr ?_; simp [flagC, ownF, hasSl3, hasSl1, SO.hasSl, List.all_map, flatSV, SV.cells, Function.comp_def]; done))) | ((refine ev_call (hD ..) rfl rfl ?_ rfl ?_); (focus first | exact .inl rfl | exact .inr rfl | (refine .inr ?_; simp [flagC, ownF, hasSl3, hasSl1, SO.hasSl, List.all_map, flatSV, SV.cells, Function.comp_def]; done)))) | ((with_reducible refine eK ?_); first | (with_reducible first | refine ev_ct ?_ | refine ev_cf ?_) | ((with_reducible refine ev_cond ?_ ?_) <;> intro h)) | ((with_reducible refine eO ?_); first | refine ev_bd rfl ?_ | (refine ev_bdB rfl ?_ ?_ <;> intro h <;> try (exfalso; simp_all; done)) | refine ev_bd0 rfl ?_ | (refine ev_ldm rfl ?_ rfl ?_; (focus omega)) | (refine ev_ldmB rfl ?_ rfl ?_ ?_; (focus omega); (all_goals intro h))) | ((with_reducible refine eD ?_); first | refine ev_bd rfl ?_ | refine ev_bd0 rfl ?_) | ((with_reducible refine ih ?_ _ _ _ ?_ ?_) <;> (first | omega | assumption | ((rw [hq]; rfl)) | (simp only [*, List.map_append, List.length_append, List.length_cons, List.length_nil, List.map_cons, List.map_nil]; done) | (simp_all; done) | (simp_all; omega))) | refine ev_ret rfl ?_)
    all_goals first
      | (exfalso; omega)
      | trace_state
  · obtain rfl : i = s.length := by omega
    (refine UL31_2 ?_; unfold LB31_2)
    repeat' (first | ((with_reducible refine eB ?_); first | ((with_reducible first | refine ev_lss ?_ ?_ | refine ev_neq ?_ ?_) <;> intro h <;> try (exfalso; omega)) | ((with_reducible refine ev_add ?_ ?_); · omega) | refine ev_bd rfl ?_ | refine ev_bd0 rfl ?_) | ((with_reducible refine eL ?_); first | ((with_reducible refine ev_lenm ?_ ?_); · rfl) | refine ev_lenom rfl rfl ?_ | refine ev_lenfm rfl rfl ?_ | refine ev_lenoc rfl rfl rfl ?_ | refine ev_lenc rfl rfl ?_ | refine ev_leno rfl rfl ?_ | refine ev_slen rfl ?_ | refine ev_bd rfl ?_ | refine ev_bd0 rfl ?_) | ((with_reducible refine eI ?_); first | ((with_reducible refine ev_idxn ?_ ?_ ?_); (· rfl); · omega) | (refine ev_idxon rfl rfl ?_ ?_; (· first | omega | (simp only [List.length_cons, List.length_nil, List.length_map, List.length_append]; omega))) | (refine ev_idxfn rfl rfl ?_ ?_; (focus omega)) | ((with_reducible refine ev_idx ?_ ?_ ?_); (· rfl); · omega) | (refine ev_idxo rfl rfl ?_ ?_; (· first | omega | (simp only [List.length_cons, List.length_nil, List.length_map, List.length_append]; omega))) | (refine ev_idxf rfl rfl ?_ ?_; (focus omega)) | refine ev_bd rfl ?_ | refine ev_bd0 rfl ?_) | ((with_reducible refine eC ?_); first | fail) | ((with_reducible refine eK ?_); first | (with_reducible first | refine ev_ct ?_ | refine ev_cf ?_) | ((with_reducible refine ev_cond ?_ ?_) <;> intro h)) | ((with_reducible refine eO ?_); first | refine ev_bd rfl ?_ | (refine ev_bdB rfl ?_ ?_ <;> intro h <;> try (exfalso; simp_all; done)) | refine ev_bd0 rfl ?_ | (refine ev_ldm rfl ?_ rfl ?_; (focus omega)) | (refine ev_ldmB rfl ?_ rfl ?_ ?_; (focus omega); (all_goals intro h))) | ((with_reducible refine eD ?_); first | refine ev_bd rfl ?_ | refine ev_bd0 rfl ?_) | refine ev_ret rfl ?_)
    all_goals exact ⟨congrArg iI hq, rfl⟩
theorem s_heldPkgS (s : List TPkg) (hs : lowPkgs s) (k0 : Int) (hk0 : 0 ≤ k0 ∧ k0 ≤ 100000000000000) : Ex (fun n => callF prg n 31 [.sl 4 ((mkS s k0 s.length).map ePkg), iI k0] []) (iI (kAt s k0 s.length)) [] := by
  refine ev_is.1 ?_
  (refine U31 (nl := 0) rfl ?_; unfold B31)
  exact s_heldPkgS_L s hs k0 hk0 _ rfl 0 (by omega) _ 0 0 rfl rfl
theorem s_szStep (t : TStep) (hs : okStep t) (k : Int) (hk : -1 ≤ k ∧ k ≤ 1048576) : ∃ z : Int, (0 ≤ z → lowPkgs t.pkgs) ∧ Ex (fun m => callF prg m 5 [eStep t, iI k] []) (iI z) [] := by
  obtain ⟨z1, hz1, e1⟩ := s_szPkgS t.pkgs hs k hk
  have key : Ev (fun m => callF prg m 5 [eStep t, iI k] []) (fun y os => ∃ z : Int, y = iI z ∧ os = [] ∧ (0 ≤ z → lowPkgs t.pkgs)) := by
    (refine U5 (nl := 0) rfl ?_; unfold B5)
    repeat' (first | ((with_reducible refine eB ?_); first | ((with_reducible refine ev_lss ?_ ?_) <;> intro h <;> try (exfalso; omega)) | refine ev_bd rfl ?_ | refine ev_bd0 rfl ?_) | ((with_reducible refine eC ?_); first | ((refine ev_call (e1 ..) rfl rfl ?_ rfl ?_); (focus first | exact .inl rfl | exact .inr rfl | (refine .inr ?_; simp [flagC, ownF, hasSl3, hasSl1, SO.hasSl, List.all_map, flatSV, SV.cells, Function.comp_def]; done)))) | ((with_reducible refine eK ?_); first | (with_reducible first | refine ev_ct ?_ | refine ev_cf ?_) | ((with_reducible refine ev_cond ?_ ?_) <;> intro h)) | ((with_reducible refine eO ?_); first | refine ev_bd rfl ?_ | (refine ev_bdB rfl ?_ ?_ <;> intro h <;> try (exfalso; simp_all; done)) | refine ev_bd0 rfl ?_ | (refine ev_ldm rfl ?_ rfl ?_; (focus omega)) | (refine ev_ldmB rfl ?_ rfl ?_ ?_; (focus omega); (all_goals intro h))) | ((with_reducible refine eD ?_); first | refine ev_bd rfl ?_ | refine ev_bd0 rfl ?_) | refine ev_ret rfl ?_)
    all_goals first
      | exact ⟨-1, rfl, rfl, fun h => by omega⟩
      | exact ⟨_, rfl, rfl, fun h => hz1.2.2 h⟩
      | trace_state
  obtain ⟨y, os, ⟨z, rfl, rfl, hz⟩, he⟩ := key
  exact ⟨z, hz, he⟩
theorem s_eqStep (a b : TStep) (h : TLenS a) : Ex (fun m => callF prg m 11 [eStep a, eStep b] []) (bB (decide (a = b))) [] := by
  refine ev_is.1 ?_
  obtain ⟨h1, h2⟩ := h
  cases a; cases b
  (refine U11 (nl := 0) rfl ?_; unfold B11)
  repeat' (first | ((with_reducible refine eB ?_); first | ((with_reducible refine ev_neq ?_ ?_) <;> intro h <;> try (exfalso; omega)) | refine ev_bd rfl ?_ | refine ev_bd0 rfl ?_) | ((with_reducible refine eC ?_); first | ((refine ev_callD (s_eqPkgS _ _ h1 h2) rfl rfl ?_ rfl rfl ?_ ?_); (focus first | exact .inl rfl | exact .inr rfl | (refine .inr ?_; simp [flagC, ownF, hasSl3, hasSl1, SO.hasSl, List.all_map, flatSV, SV.cells, Function.comp_def]; done)); (all_goals (intro h)); (all_goals (try (exfalso; first | omega | exact h rfl | exact h ⟨rfl, rfl, rfl⟩))))) | ((with_reducible refine eK ?_); first | (with_reducible first | refine ev_ct ?_ | refine ev_cf ?_) | ((with_reducible refine ev_cond ?_ ?_) <;> intro h)) | ((with_reducible refine eO ?_); first | refine ev_bd rfl ?_ | (refine ev_bdB rfl ?_ ?_ <;> intro h <;> try (exfalso; simp_all; done)) | refine ev_bd0 rfl ?_ | (refine ev_ldm rfl ?_ rfl ?_; (focus omega)) | (refine ev_ldmB rfl ?_ rfl ?_ ?_; (focus omega); (all_goals intro h))) | ((with_reducible refine eD ?_); first | refine ev_bd rfl ?_ | refine ev_bd0 rfl ?_) | refine ev_ret rfl ?_)
  all_goals (refine ⟨congrArg (fun b => SV.v (Value.bool b)) ?_, rfl⟩; first | (simp_all []; done) | (simp_all []; omega) | (simp [] at *; omega) | (simp []; omega) | grind [] | trace_state)
theorem s_heldDiskM (db jo : List TPkg) (n : Nat) (has : Bool) (h1 : lowPkgs db) (h2 : n ≤ 2000000) (h3 : lowPkgs jo) : Ex (fun m => callF prg m 14 [.ag [.sl 4 ((mkS db 1 db.length).map ePkg), .sl 1 ((markI (kAt db 1 db.length) n).map iI), bB has, .sl 4 ((mkS jo (kAt db 1 db.length + n) jo.length).map ePkg)], iI 1] []) (iI (kAt jo (kAt db 1 db.length + n) jo.length)) [] := by
  have k1 := kAt_rng h1 (k := 1) (by omega)
  have k2 := kAt_rng h3 (k := kAt db 1 db.length + n) (by omega)
  refine ev_is.1 ?_
  (refine U14 (nl := 0) rfl ?_; unfold B14)
  cases has
  all_goals repeat' (first | ((with_reducible refine eB ?_); first | ((with_reducible refine ev_lss ?_ ?_) <;> intro h <;> try (exfalso; omega)) | refine ev_bd rfl ?_ | refine ev_bd0 rfl ?_) | ((with_reducible refine eC ?_); first | ((refine ev_call (s_heldPkgS db h1 1 (by omega)) rfl rfl ?_ rfl ?_); (focus first | exact .inl rfl | exact .inr rfl | (refine .inr ?_; simp [flagC, ownF, hasSl3, hasSl1, SO.hasSl, List.all_map, flatSV, SV.cells, Function.comp_def]; done))) | ((refine ev_call (s_heldIntS (kAt db 1 db.length) (by omega) n h2) rfl rfl ?_ rfl ?_); (focus first | exact .inl rfl | exact .inr rfl | (refine .inr ?_; simp [flagC, ownF, hasSl3, hasSl1, SO.hasSl, List.all_map, flatSV, SV.cells, Function.comp_def]; done))) | ((refine ev_call (s_heldPkgS jo h3 (kAt db 1 db.length + n) (by omega)) rfl rfl ?_ rfl ?_); (focus first | exact .inl rfl | exact .inr rfl | (refine .inr ?_; simp [flagC, ownF, hasSl3, hasSl1, SO.hasSl, List.all_map, flatSV, SV.cells, Function.comp_def]; done)))) | ((with_reducible refine eK ?_); first | (with_reducible first | refine ev_ct ?_ | refine ev_cf ?_) | ((with_reducible refine ev_cond ?_ ?_) <;> intro h)) | ((with_reducible refine eO ?_); first | refine ev_bd rfl ?_ | (refine ev_bdB rfl ?_ ?_ <;> intro h <;> try (exfalso; simp_all; done)) | refine ev_bd0 rfl ?_ | (refine ev_ldm rfl ?_ rfl ?_; (focus omega)) | (refine ev_ldmB rfl ?_ rfl ?_ ?_; (focus omega); (all_goals intro h))) | ((with_reducible refine eD ?_); first | refine ev_bd rfl ?_ | refine ev_bd0 rfl ?_) | refine ev_ret rfl ?_)
  all_goals first | exact ⟨rfl, rfl⟩ | (exfalso; omega) | trace_state
end Go.Proofs.Ytbagbhbplhkjaaa

/- Disks in the second program of S. -/
namespace Go.Proofs.Ytbagbhbplhkjaaa
open Go
set_option linter.unusedVariables false
set_option linter.unusedSimpArgs false
set_option maxHeartbeats 40000000
set_option maxRecDepth 100000
abbrev nDisk (has : Bool) : SV := .ag [.osl 0, .osl 1, bB has, .osl 2]
abbrev nObj (lt : Bool) (d : TDisk) : List SO := [.nst lt 4 (d.db.map ePkg), .arr lt 1 (d.files.map iI), .nst lt 4 (d.jour.map ePkg)]
theorem E2x7 (n : Nat) (x0 : SV) (os : List SO) : callF prg2 (n + 1) 7 [x0] os = X7 (callF prg2 n) (n + 1) os.length x0 os := by kernel_rfl
theorem U2x7 {Q : SV → List SO → Prop} {x0 : SV} {os : List SO} {nl : Nat} (hnl : os.length = nl) (h : Ev (fun n => B7 (callF prg2 n) (n + 1) nl x0 os) Q) : Ev (fun n => callF prg2 n 7 [x0] os) Q := by
  subst hnl; exact ev_fun (fun n => (E2x7 n _ _).trans (X7_s _ _ _ _ _)) h
theorem s_toDiskN (d : TDisk) (h : LowDisk d) : Ex (fun m => callF prg2 m 7 [aDisk d] []) (nDisk d.has) (nObj false d) := by
  refine ev_is.1 ?_
  obtain ⟨db, fs, has, jo⟩ := d
  have h1 := h.db
  have h2 : fs.length ≤ 2000000 := Nat.le_trans h.fl (by decide)
  have h3 := h.jour
  dsimp only at h1 h2 h3
  (refine U2x7 (nl := 0) rfl ?_; unfold B7)
  cases has
  all_goals repeat' (first | ((with_reducible refine eC ?_); first | ((refine ev_call (s_toPkgSN db h1) rfl rfl ?_ rfl ?_); (focus first | exact .inl rfl | exact .inr rfl | (refine .inr ?_; simp [flagC, ownF, hasSl3, hasSl1, SO.hasSl, List.all_map, flatSV, SV.cells, Function.comp_def]; done))) | ((refine ev_call (lift (s_toIntS fs h2) rfl) rfl rfl ?_ rfl ?_); (focus first | exact .inl rfl | exact .inr rfl | (refine .inr ?_; simp [flagC, ownF, hasSl3, hasSl1, SO.hasSl, List.all_map, flatSV, SV.cells, Function.comp_def]; done))) | ((refine ev_call (s_toPkgSN jo h3) rfl rfl ?_ rfl ?_); (focus first | exact .inl rfl | exact .inr rfl | (refine .inr ?_; simp [flagC, ownF, hasSl3, hasSl1, SO.hasSl, List.all_map, flatSV, SV.cells, Function.comp_def]; done)))) | ((with_reducible refine eO ?_); first | refine ev_bd rfl ?_ | (refine ev_bdB rfl ?_ ?_ <;> intro h <;> try (exfalso; simp_all; done)) | refine ev_bd0 rfl ?_ | (refine ev_ldm rfl ?_ rfl ?_; (focus omega)) | (refine ev_ldmB rfl ?_ rfl ?_ ?_; (focus omega); (all_goals intro h))) | ((with_reducible refine eD ?_); first | refine ev_bd rfl ?_ | refine ev_bd0 rfl ?_) | refine ev_ret rfl ?_)
  all_goals first | exact ⟨rfl, rfl⟩ | trace_state
theorem E2x8 (n : Nat) (x0 : SV) (os : List SO) : callF prg2 (n + 1) 8 [x0] os = X8 (callF prg2 n) (n + 1) os.length x0 os := by kernel_rfl
theorem U2x8 {Q : SV → List SO → Prop} {x0 : SV} {os : List SO} {nl : Nat} (hnl : os.length = nl) (h : Ev (fun n => B8 (callF prg2 n) (n + 1) nl x0 os) Q) : Ev (fun n => callF prg2 n 8 [x0] os) Q := by
  subst hnl; exact ev_fun (fun n => (E2x8 n _ _).trans (X8_s _ _ _ _ _)) h
theorem s_toStepN (t : TStep) (h : lowPkgs t.pkgs) : Ex (fun m => callF prg2 m 8 [eStep t] []) (.ag [iI t.kind, iI t.path, iI t.data, .osl 0]) [.nst false 4 (t.pkgs.map ePkg)] := by
  refine ev_is.1 ?_
  (refine U2x8 (nl := 0) rfl ?_; unfold B8)
  repeat' (first | ((with_reducible refine eC ?_); first | ((refine ev_call (s_toPkgSN t.pkgs h) rfl rfl ?_ rfl ?_); (focus first | exact .inl rfl | exact .inr rfl | (refine .inr ?_; simp [flagC, ownF, hasSl3, hasSl1, SO.hasSl, List.all_map, flatSV, SV.cells, Function.comp_def]; done)))) | ((with_reducible refine eO ?_); first | refine ev_bd rfl ?_ | (refine ev_bdB rfl ?_ ?_ <;> intro h <;> try (exfalso; simp_all; done)) | refine ev_bd0 rfl ?_ | (refine ev_ldm rfl ?_ rfl ?_; (focus omega)) | (refine ev_ldmB rfl ?_ rfl ?_ ?_; (focus omega); (all_goals intro h))) | ((with_reducible refine eD ?_); first | refine ev_bd rfl ?_ | refine ev_bd0 rfl ?_) | refine ev_ret rfl ?_)
  all_goals first | exact ⟨rfl, rfl⟩ | trace_state
theorem E2x13 (n : Nat) (x0 x1 : SV) (os : List SO) : callF prg2 (n + 1) 13 [x0, x1] os = X13 (callF prg2 n) (n + 1) os.length x0 x1 os := by kernel_rfl
theorem U2x13 {Q : SV → List SO → Prop} {x0 x1 : SV} {os : List SO} {nl : Nat} (hnl : os.length = nl) (h : Ev (fun n => B13 (callF prg2 n) (n + 1) nl x0 x1 os) Q) : Ev (fun n => callF prg2 n 13 [x0, x1] os) Q := by
  subst hnl; exact ev_fun (fun n => (E2x13 n _ _ _).trans (X13_s _ _ _ _ _ _)) h
theorem s_markStepN (t : TStep) (h : lowPkgs t.pkgs) (k : Int) (hk : 0 ≤ k ∧ k ≤ 100000000000000) : Ex (fun m => callF prg2 m 13 [.ag [iI t.kind, iI t.path, iI t.data, .osl 0], iI k] [.nst true 4 (t.pkgs.map ePkg)]) (iI (kAt t.pkgs k t.pkgs.length)) [.nst true 4 ((mkS t.pkgs k t.pkgs.length).map ePkg)] := by
  refine ev_is.1 ?_
  (refine U2x13 (nl := 1) rfl ?_; unfold B13)
  repeat' (first | ((with_reducible refine eC ?_); first | ((refine ev_call (s_markPkgSN t.pkgs h k hk) rfl rfl ?_ rfl ?_); (focus first | exact .inl rfl | exact .inr rfl | (refine .inr ?_; simp [flagC, ownF, hasSl3, hasSl1, SO.hasSl, List.all_map, flatSV, SV.cells, Function.comp_def]; done)))) | ((with_reducible refine eO ?_); first | refine ev_bd rfl ?_ | (refine ev_bdB rfl ?_ ?_ <;> intro h <;> try (exfalso; simp_all; done)) | refine ev_bd0 rfl ?_ | (refine ev_ldm rfl ?_ rfl ?_; (focus omega)) | (refine ev_ldmB rfl ?_ rfl ?_ ?_; (focus omega); (all_goals intro h))) | ((with_reducible refine eD ?_); first | refine ev_bd rfl ?_ | refine ev_bd0 rfl ?_) | refine ev_ret rfl ?_)
  all_goals first | exact ⟨rfl, rfl⟩ | trace_state
theorem E2x12 (n : Nat) (x0 x1 : SV) (os : List SO) : callF prg2 (n + 1) 12 [x0, x1] os = X12 (callF prg2 n) (n + 1) os.length x0 x1 os := by kernel_rfl
theorem U2x12 {Q : SV → List SO → Prop} {x0 x1 : SV} {os : List SO} {nl : Nat} (hnl : os.length = nl) (h : Ev (fun n => B12 (callF prg2 n) (n + 1) nl x0 x1 os) Q) : Ev (fun n => callF prg2 n 12 [x0, x1] os) Q := by
  subst hnl; exact ev_fun (fun n => (E2x12 n _ _ _).trans (X12_s _ _ _ _ _ _)) h
theorem s_markDiskN (d : TDisk) (h : LowDisk d) (k : Int) (hk : 0 ≤ k ∧ k ≤ 10000000000000) : Ex (fun m => callF prg2 m 12 [nDisk d.has, iI k] (nObj true d)) (iI (kAt d.jour (kAt d.db k d.db.length + d.files.length) d.jour.length)) [.nst true 4 ((mkS d.db k d.db.length).map ePkg), .arr true 1 ((markI (kAt d.db k d.db.length) d.files.length).map iI), .nst true 4 ((mkS d.jour (kAt d.db k d.db.length + d.files.length) d.jour.length).map ePkg)] := by
  have h2 : d.files.length ≤ 2000000 := Nat.le_trans h.fl (by decide)
  have k1 := kAt_rng h.db hk.1
  have k2 := kAt_rng h.jour (k := kAt d.db k d.db.length + d.files.length) (by omega)
  refine ev_is.1 ?_
  (refine U2x12 (nl := 3) rfl ?_; unfold B12)
  repeat' (first | ((with_reducible refine eC ?_); first | ((refine ev_call (s_markPkgSN d.db h.db k (by omega)) rfl rfl ?_ rfl ?_); (focus first | exact .inl rfl | exact .inr rfl | (refine .inr ?_; simp [flagC, ownF, hasSl3, hasSl1, SO.hasSl, List.all_map, flatSV, SV.cells, Function.comp_def]; done))) | ((refine ev_call (lift (s_markIntS d.files (kAt d.db k d.db.length) (by omega) h2) rfl) rfl rfl ?_ rfl ?_); (focus first | exact .inl rfl | exact .inr rfl | (refine .inr ?_; simp [flagC, ownF, hasSl3, hasSl1, SO.hasSl, List.all_map, flatSV, SV.cells, Function.comp_def]; done))) | ((refine ev_call (s_markPkgSN d.jour h.jour (kAt d.db k d.db.length + d.files.length) (by omega)) rfl rfl ?_ rfl ?_); (focus first | exact .inl rfl | exact .inr rfl | (refine .inr ?_; simp [flagC, ownF, hasSl3, hasSl1, SO.hasSl, List.all_map, flatSV, SV.cells, Function.comp_def]; done)))) | ((with_reducible refine eO ?_); first | refine ev_bd rfl ?_ | (refine ev_bdB rfl ?_ ?_ <;> intro h <;> try (exfalso; simp_all; done)) | refine ev_bd0 rfl ?_ | (refine ev_ldm rfl ?_ rfl ?_; (focus omega)) | (refine ev_ldmB rfl ?_ rfl ?_ ?_; (focus omega); (all_goals intro h))) | ((with_reducible refine eD ?_); first | refine ev_bd rfl ?_ | refine ev_bd0 rfl ?_) | refine ev_ret rfl ?_)
  all_goals first | exact ⟨rfl, rfl⟩ | trace_state
theorem s_markDiskN1 (d : TDisk) (h : LowDisk d) (k : Int) (hk : 0 ≤ k ∧ k ≤ 10000000000000) : Ex (fun m => callF prg2 m 12 [nDisk d.has, iI k] [.arr true 4 [], .arr true 1 (d.files.map iI), .nst true 4 (d.jour.map ePkg)]) (iI (kAt d.jour (k + d.files.length) d.jour.length)) [.arr true 4 [], .arr true 1 ((markI k d.files.length).map iI), .nst true 4 ((mkS d.jour (k + d.files.length) d.jour.length).map ePkg)] := by
  have h2 : d.files.length ≤ 2000000 := Nat.le_trans h.fl (by decide)
  have k2 := kAt_rng h.jour (k := k + d.files.length) (by omega)
  refine ev_is.1 ?_
  (refine U2x12 (nl := 3) rfl ?_; unfold B12)
  repeat' (first | ((with_reducible refine eC ?_); first | ((refine ev_call (s_markPkgSN0 k) rfl rfl ?_ rfl ?_); (focus first | exact .inl rfl | exact .inr rfl | (refine .inr ?_; simp [flagC, ownF, hasSl3, hasSl1, SO.hasSl, List.all_map, flatSV, SV.cells, Function.comp_def]; done))) | ((refine ev_call (lift (s_markIntS d.files k (by omega) h2) rfl) rfl rfl ?_ rfl ?_); (focus first | exact .inl rfl | exact .inr rfl | (refine .inr ?_; simp [flagC, ownF, hasSl3, hasSl1, SO.hasSl, List.all_map, flatSV, SV.cells, Function.comp_def]; done))) | ((refine ev_call (s_markPkgSN d.jour h.jour (k + d.files.length) (by omega)) rfl rfl ?_ rfl ?_); (focus first | exact .inl rfl | exact .inr rfl | (refine .inr ?_; simp [flagC, ownF, hasSl3, hasSl1, SO.hasSl, List.all_map, flatSV, SV.cells, Function.comp_def]; done)))) | ((with_reducible refine eO ?_); first | refine ev_bd rfl ?_ | (refine ev_bdB rfl ?_ ?_ <;> intro h <;> try (exfalso; simp_all; done)) | refine ev_bd0 rfl ?_ | (refine ev_ldm rfl ?_ rfl ?_; (focus omega)) | (refine ev_ldmB rfl ?_ rfl ?_ ?_; (focus omega); (all_goals intro h))) | ((with_reducible refine eD ?_); first | refine ev_bd rfl ?_ | refine ev_bd0 rfl ?_) | refine ev_ret rfl ?_)
  all_goals first | exact ⟨rfl, rfl⟩ | trace_state
theorem s_markDiskN0 (k : Int) (hk : 0 ≤ k ∧ k ≤ 10000000000000) : Ex (fun m => callF prg2 m 12 [nDisk false, iI k] [.arr true 4 [], .arr true 1 [], .arr true 4 []]) (iI k) [.arr true 4 [], .arr true 1 [], .arr true 4 []] := by
  refine ev_is.1 ?_
  have hm := s_markIntS [] k (by omega) (by simp)
  simp only [List.length_nil, List.map_nil, markI, List.range_zero, Int.natCast_zero, Int.add_zero, Int.cast_ofNat_Int] at hm
  (refine U2x12 (nl := 3) rfl ?_; unfold B12)
  repeat' (first | ((with_reducible refine eC ?_); first | ((refine ev_call (s_markPkgSN0 k) rfl rfl ?_ rfl ?_); (focus first | exact .inl rfl | exact .inr rfl | (refine .inr ?_; simp [flagC, ownF, hasSl3, hasSl1, SO.hasSl, List.all_map, flatSV, SV.cells, Function.comp_def]; done))) | ((refine ev_call (lift hm rfl) rfl rfl ?_ rfl ?_); (focus first | exact .inl rfl | exact .inr rfl | (refine .inr ?_; simp [flagC, ownF, hasSl3, hasSl1, SO.hasSl, List.all_map, flatSV, SV.cells, Function.comp_def]; done)))) | ((with_reducible refine eO ?_); first | refine ev_bd rfl ?_ | (refine ev_bdB rfl ?_ ?_ <;> intro h <;> try (exfalso; simp_all; done)) | refine ev_bd0 rfl ?_ | (refine ev_ldm rfl ?_ rfl ?_; (focus omega)) | (refine ev_ldmB rfl ?_ rfl ?_ ?_; (focus omega); (all_goals intro h))) | ((with_reducible refine eD ?_); first | refine ev_bd rfl ?_ | refine ev_bd0 rfl ?_) | refine ev_ret rfl ?_)
  all_goals first | exact ⟨rfl, rfl⟩ | trace_state
theorem E2x25 (n : Nat) (x0 : SV) (os : List SO) : callF prg2 (n + 1) 25 [x0] os = X25 (callF prg2 n) (n + 1) os.length x0 os := by kernel_rfl
theorem U2x25 {Q : SV → List SO → Prop} {x0 : SV} {os : List SO} {nl : Nat} (hnl : os.length = nl) (h : Ev (fun n => B25 (callF prg2 n) (n + 1) nl x0 os) Q) : Ev (fun n => callF prg2 n 25 [x0] os) Q := by
  subst hnl; exact ev_fun (fun n => (E2x25 n _ _).trans (X25_s _ _ _ _ _)) h
theorem s_copiedDiskN (d : TDisk) (h : LowDisk d) : Ex (fun m => callF prg2 m 25 [aDisk d] []) (nDisk d.has) (nObj false d) := by
  refine ev_is.1 ?_
  obtain ⟨db, fs, has, jo⟩ := d
  have h1 := h.db
  have h2 : fs.length ≤ 2000000 := Nat.le_trans h.fl (by decide)
  have h3 := h.jour
  dsimp only at h1 h2 h3
  (refine U2x25 (nl := 0) rfl ?_; unfold B25)
  cases has
  all_goals repeat' (first | ((with_reducible refine eC ?_); first | ((refine ev_call (s_copiesN db h1) rfl rfl ?_ rfl ?_); (focus first | exact .inl rfl | exact .inr rfl | (refine .inr ?_; simp [flagC, ownF, hasSl3, hasSl1, SO.hasSl, List.all_map, flatSV, SV.cells, Function.comp_def]; done))) | ((refine ev_call (lift (s_CloneInt fs (by omega)) rfl) rfl rfl ?_ rfl ?_); (focus first | exact .inl rfl | exact .inr rfl | (refine .inr ?_; simp [flagC, ownF, hasSl3, hasSl1, SO.hasSl, List.all_map, flatSV, SV.cells, Function.comp_def]; done))) | ((refine ev_call (s_copiesN jo h3) rfl rfl ?_ rfl ?_); (focus first | exact .inl rfl | exact .inr rfl | (refine .inr ?_; simp [flagC, ownF, hasSl3, hasSl1, SO.hasSl, List.all_map, flatSV, SV.cells, Function.comp_def]; done)))) | ((with_reducible refine eO ?_); first | refine ev_bd rfl ?_ | (refine ev_bdB rfl ?_ ?_ <;> intro h <;> try (exfalso; simp_all; done)) | refine ev_bd0 rfl ?_ | (refine ev_ldm rfl ?_ rfl ?_; (focus omega)) | (refine ev_ldmB rfl ?_ rfl ?_ ?_; (focus omega); (all_goals intro h))) | ((with_reducible refine eD ?_); first | refine ev_bd rfl ?_ | refine ev_bd0 rfl ?_) | ((with_reducible refine ev_dchk ?_ ?_); · intro _; rfl) | refine ev_ret rfl ?_)
  all_goals first | exact ⟨rfl, rfl⟩ | trace_state
theorem E2x26 (n : Nat) (x0 x1 : SV) (os : List SO) : callF prg2 (n + 1) 26 [x0, x1] os = X26 (callF prg2 n) (n + 1) os.length x0 x1 os := by kernel_rfl
theorem U2x26 {Q : SV → List SO → Prop} {x0 x1 : SV} {os : List SO} {nl : Nat} (hnl : os.length = nl) (h : Ev (fun n => B26 (callF prg2 n) (n + 1) nl x0 x1 os) Q) : Ev (fun n => callF prg2 n 26 [x0, x1] os) Q := by
  subst hnl; exact ev_fun (fun n => (E2x26 n _ _ _).trans (X26_s _ _ _ _ _ _)) h
abbrev nBox (has : Bool) : SO := .box [.osl 1, .osl 2, bB has, .osl 3]
theorem s_tearN (d : TDisk) (t : TStep) (h : LowDisk d) (hi : inD d t) : Ev (fun m => callF prg2 m 26 [.ptr 0 0, eStep t] (nBox d.has :: nObj true d)) (fun y os => y = .tup [] ∧ ((t.kind ≠ 3 ∧ os = nBox d.has :: nObj true (tearP d t)) ∨
    (t.kind = 3 ∧ os = [.box [.osl 4, .osl 2, bB d.has, .osl 3], .nst true 4 (d.db.map ePkg), .arr true 1 (d.files.map iI), .nst true 4 (d.jour.map ePkg), .arr false 4 []]))) := by
  have hf : d.files.length ≤ 2000000 := Nat.le_trans h.fl (by decide)
  unfold inD at hi
  (refine U2x26 (nl := 4) rfl ?_; unfold B26)
  repeat' (first | ((with_reducible refine eG ?_); first | (with_reducible first | refine ev_gtt ?_ | refine ev_gff ?_ | refine ev_gtf ?_ | refine ev_gft ?_ | refine ev_gu ?_) | refine ev_bd rfl ?_ | refine ev_bd0 rfl ?_ | ((with_reducible refine ev_gB ?_ ?_) <;> intro h)) | ((with_reducible refine eB ?_); first | ((with_reducible first | refine ev_lss ?_ ?_ | refine ev_leq ?_ ?_ | refine ev_gtr ?_ ?_ | refine ev_geq ?_ ?_ | refine ev_eql ?_ ?_ | refine ev_neq ?_ ?_) <;> intro h <;> try (exfalso; omega)) | ((with_reducible first | refine ev_add ?_ ?_ | refine ev_sub ?_ ?_ | refine ev_mul ?_ ?_); · omega) | ((with_reducible refine ev_quo ?_ ?_ ?_); (· omega); (· omega); intro x hx hx0 hx1) | ((with_reducible refine ev_rem ?_ ?_); (· omega); intro x hx hx0 hx1) | ((with_reducible first | refine ev_eql3 ?_ ?_ ?_ | refine ev_neq3 ?_ ?_ ?_ | refine ev_eql2 ?_ ?_ ?_ | refine ev_neq2 ?_ ?_ ?_); (· rfl); all_goals intro h) | refine ev_bd rfl ?_ | refine ev_bd0 rfl ?_) | ((with_reducible refine eL ?_); first | ((with_reducible refine ev_lenm ?_ ?_); · rfl) | refine ev_lenom rfl rfl ?_ | refine ev_lenfm rfl rfl ?_ | refine ev_lenoc rfl rfl rfl ?_ | refine ev_lenc rfl rfl ?_ | refine ev_leno rfl rfl ?_ | refine ev_slen rfl ?_ | refine ev_bd rfl ?_ | refine ev_bd0 rfl ?_) | ((with_reducible refine eI ?_); first | ((with_reducible refine ev_idxn ?_ ?_ ?_); (· rfl); · omega) | (refine ev_idxon rfl rfl ?_ ?_; (· first | omega | (simp only [List.length_cons, List.length_nil, List.length_map, List.length_append]; omega))) | (refine ev_idxfn rfl rfl ?_ ?_; (focus omega)) | ((with_reducible refine ev_idx ?_ ?_ ?_); (· rfl); · omega) | (refine ev_idxo rfl rfl ?_ ?_; (· first | omega | (simp only [List.length_cons, List.length_nil, List.length_map, List.length_append]; omega))) | (refine ev_idxf rfl rfl ?_ ?_; (focus omega)) | refine ev_bd rfl ?_ | refine ev_bd0 rfl ?_) | ((with_reducible refine eS ?_); first | ((with_reducible first | refine ev_slh ?_ ?_ ?_ | refine ev_sll ?_ ?_ ?_); (· rfl); · omega) | ((first | refine ev_slvh rfl rfl ?_ ?_ | refine ev_slvl rfl rfl ?_ ?_); (· first | omega | (simp only [List.length_cons, List.length_nil, List.length_map, List.length_append]; omega))) | refine ev_bd rfl ?_ | refine ev_bd0 rfl ?_) | ((with_reducible refine eC ?_); first | fail) | (with_reducible refine ev_callee ?_) | ((with_reducible refine eA ?_); first | (refine ev_app rfl rfl rfl rfl rfl ?_ ?_; · first | decide | (simp only [List.length_append, List.length_cons, List.length_nil, List.length_map, List.length_take, List.length_drop]; omega))) | ((with_reducible refine eV ?_); first | ((with_reducible refine ev_conv64 ?_ ?_ ?_ ?_); (· rfl); (· rfl); · omega) | refine ev_bd rfl ?_ | refine ev_bd0 rfl ?_) | ((with_reducible refine eK ?_); first | (with_reducible first | refine ev_ct ?_ | refine ev_cf ?_) | ((with_reducible refine ev_cond ?_ ?_) <;> intro h)) | ((with_reducible refine eO ?_); first | refine ev_bd rfl ?_ | (refine ev_bdB rfl ?_ ?_ <;> intro h <;> try (exfalso; simp_all; done)) | refine ev_bd0 rfl ?_ | (refine ev_ldm rfl ?_ rfl ?_; (focus omega)) | (refine ev_ldmB rfl ?_ rfl ?_ ?_; (focus omega); (all_goals intro h)) | (refine ev_ldz rfl rfl rfl ?_ ?_ ?_; (· simp); (· first | omega | (simp only [List.length_cons, List.length_nil, List.length_map, List.length_append]; omega)); intro w)) | ((with_reducible refine eD ?_); first | refine ev_bd rfl ?_ | refine ev_bd0 rfl ?_ | ( (refine ev_sto (f := iI) (a := -2) rfl rfl rfl rfl rfl rfl rfl rfl ?_ rfl ?_; (focus omega))) | ((with_reducible refine ev_pickB ?_ ?_) <;> intro h)) | ((with_reducible refine ev_dchk ?_ ?_); · intro _; rfl) | ((with_reducible refine UJ26_6 ?_); (unfold JB26_6)) | refine ev_ret rfl ?_)
  all_goals first
    | exact ⟨rfl, .inl ⟨by omega, by unfold tearP; rw [if_pos (by omega)]⟩⟩
    | exact ⟨rfl, .inl ⟨by omega, by unfold tearP; rw [if_neg (by omega), if_neg (by omega)]⟩⟩
    | exact ⟨rfl, .inr ⟨by omega, rfl⟩⟩
    | trace_state
theorem E2x20 (n : Nat) (x0 : SV) (os : List SO) : callF prg2 (n + 1) 20 [x0] os = X20 (callF prg2 n) (n + 1) os.length x0 os := by kernel_rfl
theorem U2x20 {Q : SV → List SO → Prop} {x0 : SV} {os : List SO} {nl : Nat} (hnl : os.length = nl) (h : Ev (fun n => B20 (callF prg2 n) (n + 1) nl x0 os) Q) : Ev (fun n => callF prg2 n 20 [x0] os) Q := by
  subst hnl; exact ev_fun (fun n => (E2x20 n _ _).trans (X20_s _ _ _ _ _)) h
theorem s_l21CopyN (d : TDisk) (h : LowDisk d) : Ex (fun m => callF prg2 m 20 [aDisk d] []) (nDisk d.has) (nObj false d) := by
  refine ev_is.1 ?_
  obtain ⟨db, fs, has, jo⟩ := d
  have h1 := h.db
  have h2 : fs.length ≤ 2000000 := Nat.le_trans h.fl (by decide)
  have h3 := h.jour
  dsimp only at h1 h2 h3
  (refine U2x20 (nl := 0) rfl ?_; unfold B20)
  cases has
  all_goals repeat' (first | ((with_reducible refine eC ?_); first | ((refine ev_call (s_l12CopyN db h1) rfl rfl ?_ rfl ?_); (focus first | exact .inl rfl | exact .inr rfl | (refine .inr ?_; simp [flagC, ownF, hasSl3, hasSl1, SO.hasSl, List.all_map, flatSV, SV.cells, Function.comp_def]; done))) | ((refine ev_call (s_l12CopyN jo h3) rfl rfl ?_ rfl ?_); (focus first | exact .inl rfl | exact .inr rfl | (refine .inr ?_; simp [flagC, ownF, hasSl3, hasSl1, SO.hasSl, List.all_map, flatSV, SV.cells, Function.comp_def]; done)))) | ((with_reducible refine eA ?_); first | (refine ev_app rfl rfl rfl rfl rfl ?_ ?_; · first | decide | (simp only [List.length_append, List.length_cons, List.length_nil, List.length_map, List.length_take, List.length_drop]; omega))) | ((with_reducible refine eO ?_); first | refine ev_bd rfl ?_ | (refine ev_bdB rfl ?_ ?_ <;> intro h <;> try (exfalso; simp_all; done)) | refine ev_bd0 rfl ?_ | (refine ev_ldm rfl ?_ rfl ?_; (focus omega)) | (refine ev_ldmB rfl ?_ rfl ?_ ?_; (focus omega); (all_goals intro h)) | (refine ev_ldz rfl rfl rfl ?_ ?_ ?_; (· simp); (· first | omega | (simp only [List.length_cons, List.length_nil, List.length_map, List.length_append]; omega)); intro w)) | ((with_reducible refine eD ?_); first | refine ev_bd rfl ?_ | refine ev_bd0 rfl ?_) | ((with_reducible refine ev_dchk ?_ ?_); · intro _; rfl) | (with_reducible refine ev_bothI ?_ ?_) | refine ev_ret rfl ?_)
  all_goals first | exact ⟨rfl, rfl⟩ | trace_state
theorem E2x19 (n : Nat) (x0 x1 : SV) (os : List SO) : callF prg2 (n + 1) 19 [x0, x1] os = X19 (callF prg2 n) (n + 1) os.length x0 x1 os := by kernel_rfl
theorem U2x19 {Q : SV → List SO → Prop} {x0 x1 : SV} {os : List SO} {nl : Nat} (hnl : os.length = nl) (h : Ev (fun n => B19 (callF prg2 n) (n + 1) nl x0 x1 os) Q) : Ev (fun n => callF prg2 n 19 [x0, x1] os) Q := by
  subst hnl; exact ev_fun (fun n => (E2x19 n _ _ _).trans (X19_s _ _ _ _ _ _)) h
theorem s_l21TearN (d : TDisk) (t : TStep) (h : LowDisk d) (hi : inD d t) : Ev (fun m => callF prg2 m 19 [nDisk d.has, eStep t] (nObj true d)) (fun y os => (t.kind ≠ 3 ∧ y = nDisk (tearP d t).has ∧ os = nObj true (tearP d t)) ∨
    (t.kind = 3 ∧ y = .ag [.osl 3, .osl 1, bB d.has, .osl 2] ∧ os = [.nst true 4 (d.db.map ePkg), .arr true 1 (d.files.map iI), .nst true 4 (d.jour.map ePkg), .arr false 4 []])) := by
  have hf : d.files.length ≤ 2000000 := Nat.le_trans h.fl (by decide)
  unfold inD at hi
  (refine U2x19 (nl := 3) rfl ?_; unfold B19)
  repeat' (first | ((with_reducible refine eB ?_); first | ((with_reducible refine ev_eql ?_ ?_) <;> intro h <;> try (exfalso; omega)) | refine ev_bd rfl ?_ | refine ev_bd0 rfl ?_) | ((with_reducible refine eI ?_); first | ((with_reducible refine ev_idxn ?_ ?_ ?_); (· rfl); · omega) | (refine ev_idxon rfl rfl ?_ ?_; (· first | omega | (simp only [List.length_cons, List.length_nil, List.length_map, List.length_append]; omega))) | (refine ev_idxfn rfl rfl ?_ ?_; (focus omega)) | ((with_reducible refine ev_idx ?_ ?_ ?_); (· rfl); · omega) | (refine ev_idxo rfl rfl ?_ ?_; (· first | omega | (simp only [List.length_cons, List.length_nil, List.length_map, List.length_append]; omega))) | (refine ev_idxf rfl rfl ?_ ?_; (focus omega)) | refine ev_bd rfl ?_ | refine ev_bd0 rfl ?_) | ((with_reducible refine eK ?_); first | (with_reducible first | refine ev_ct ?_ | refine ev_cf ?_) | ((with_reducible refine ev_cond ?_ ?_) <;> intro h)) | ((with_reducible refine eO ?_); first | refine ev_bd rfl ?_ | (refine ev_bdB rfl ?_ ?_ <;> intro h <;> try (exfalso; simp_all; done)) | refine ev_bd0 rfl ?_ | (refine ev_ldm rfl ?_ rfl ?_; (focus omega)) | (refine ev_ldmB rfl ?_ rfl ?_ ?_; (focus omega); (all_goals intro h)) | (refine ev_ldz rfl rfl rfl ?_ ?_ ?_; (· simp); (· first | omega | (simp only [List.length_cons, List.length_nil, List.length_map, List.length_append]; omega)); intro w)) | ((with_reducible refine eD ?_); first | refine ev_bd rfl ?_ | refine ev_bd0 rfl ?_ | ( (refine ev_sto (f := iI) (a := -2) rfl rfl rfl rfl rfl rfl rfl rfl ?_ rfl ?_; (focus omega)))) | ((with_reducible refine UJ19_6 ?_); (unfold JB19_6)) | refine ev_ret rfl ?_)
  all_goals first
    | exact .inl ⟨by omega, by unfold tearP; rw [if_pos (by omega)], by unfold tearP; rw [if_pos (by omega)]⟩
    | exact .inl ⟨by omega, by unfold tearP; rw [if_neg (by omega), if_neg (by omega)], by unfold tearP; rw [if_neg (by omega), if_neg (by omega)]⟩
    | exact .inr ⟨by omega, rfl, rfl⟩
    | trace_state
end Go.Proofs.Ytbagbhbplhkjaaa
