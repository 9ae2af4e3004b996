/- The evaluator S and what it says of functions: Bz, Tp, Tr, Ca, Ce, Tq, Cr, Cf. -/
import Derived.Test.YtebaiioejagfoaaGreatDoorBy
import Derived.Test.YtebaiioejagfoaaGreatDoorV40
import Derived.Test.YtebaiioejagfoaaGreatDoorV3
import Derived.Lib.SmallJoins
import Derived.Lib.Strings
/- The text of a package, walked: the whole. -/
set_option linter.unusedVariables false
set_option linter.unusedSimpArgs false
namespace Go.Proofs.YtebaiioejagfoaaGreatDoor
open Go Go.Shelf Go.RowKit Go.Lib Go.Proofs
set_option maxHeartbeats 4000000
set_option maxRecDepth 100000
def pF (l : List TFile) : List (Int × Int) := l.map fun f => (f.path, f.data)
def pD (l : List TDep) : List (Int × Int) := l.map fun f => (f.name, f.least)
theorem text_start {w w2 : World} {vs : List Value} {t : Nat} (hb2 : Below (w.alloc (.cells vs.toArray t)).heap.size (w.alloc (.cells vs.toArray t)) w2) :
    ∃ W3, (Instr.alloc 81 true (.tuple #[])).run Tryz.prog w2 = .ok (.pointer (some ⟨w2.heap.size, 0, none⟩)) W3 ∧ Lib.IsBuilderF 81 5 w2.heap.size w2.heap.size [] W3 ∧ (∀ i v, vs[i]? = some v → ∀ W, Below w2.heap.size W3 W → W.cell? ⟨w.heap.size, i, none⟩ = some v) ∧
      (∀ W, Below w2.heap.size W3 W → Below w.heap.size w W) ∧ w.heap.size < w2.heap.size ∧ w2.heap.size ≤ W3.heap.size := by
  have hs : w.heap.size < w2.heap.size := by have := hb2.size; simp at this; omega
  have hb3 : Below w2.heap.size w2 (w2.alloc (.cells #[.pointer none, .slice none 0 0] 81)) := (Below.refl _ w2).alloc (Nat.le_refl _) _
  refine ⟨_, al_builder w2, Lib.IsBuilderF.of (Lib.fresh_isBuilder 81 5 w2), fun i v hi W hW => ?_, fun W hW => ?_, hs, by simp⟩
  · have h1 := cells_alloc_new w vs.toArray t i v (by simpa using hi)
    rw [Nat.zero_add] at h1
    have h2 : W.heap[w.heap.size]? = (w.alloc (.cells vs.toArray t)).heap[w.heap.size]? := by
      rw [hW.block _ hs, hb3.block _ hs, hb2.block _ (by simp)]
    rw [cell?_heap h2]
    exact h1
  · refine ⟨hW.os.trans (hb3.os.trans hb2.os), hW.tape.trans (hb3.tape.trans hb2.tape), hW.output.trans (hb3.output.trans hb2.output), by have := hW.size; have := hb3.size; omega, fun k hk => ?_⟩
    rw [hW.block k (by omega), hb3.block k (by omega), hb2.block k (by simp; omega)]
    exact heap_alloc_lt w _ k hk
theorem text_walk {p : TPkg} {w : World} {s1 s2 : Value} (hok : pkgOk p = true) (hpk : ∀ w1, w.heap.size ≤ w1.heap.size → (∀ k, k < w.heap.size → w1.heap[k]? = w.heap[k]?) → Calls Tryz.prog 39 #[pkV p s1 s2] w1 fun e w2 => e = .returned (.bool true) ∧ Below w1.heap.size w1 w2)
    (h1 : Pairs w (pF p.files) s1) (h2 : Pairs w (pD p.deps) s2) :
    Calls Tryz.prog 11 #[pkV p s1 s2] w fun e w' => e = .returned (.string ⟨(pkgTx p).toArray⟩) ∧ Below w.heap.size w w' := by
  have mixed : Tryz.prog.follows .mixedOrders = true := by kernel_rfl
  obtain ⟨ok1, ok2, ok3, ok4⟩ := pkgOk_iff.1 hok
  obtain ⟨A1, c1, rfl, m1⟩ := h1
  obtain ⟨A2, c2, rfl, m2⟩ := h2
  have hlen1 : (pF p.files).length = p.files.length := by simp [pF]
  have hlen2 : (pD p.deps).length = p.deps.length := by simp [pD]
  simp only [pkV, hlen1, hlen2] at hpk ⊢
  go_enter Tryz.func11, Tryz.ntmps11
  go_wp2_with (first
    | (go_at_call 39; refine (hpk _ (by simp) (fun k hk => heap_alloc_lt w _ k hk)).mono ?_; rintro e w2 ⟨rfl, hb2⟩; obtain ⟨W3, al, hI0, hcell, hold, hlt, hsz⟩ := text_start (vs := [.int .i64 p.name, .int .i64 p.ver, .slice A1 p.files.length c1, .slice A2 p.deps.length c2]) hb2; have k0 := hcell 0 _ rfl W3 (Below.refl _ _); have k1 := hcell 1 _ rfl W3 (Below.refl _ _); clear hpk hb2)
    | (refine wpList_al rfl 81 rfl _ al ?_)
    | (go_at_call 41; refine (named_walk p.name p.ver ok1 (by omega) _).mono ?_; rintro e w4 ⟨rfl, rfl⟩)
    | (go_at_call 40; refine (ws_k w2.heap.size w2.heap.size [] _ _ hI0 (by simp [ByteArray.size]) hsz).mono ?_; rintro e W4 ⟨rfl, hI4, hb4⟩; have k2 := hcell 2 _ rfl W4 hb4))
  have hf2 : p.files.length ≤ 2 := by
    have := ok3; unfold filesOk at this; simp only [Bool.and_eq_true, decide_eq_true_eq] at this; exact this.1
  have hd2 : p.deps.length ≤ 2 := by
    have := ok4; unfold depsOk at this; simp only [Bool.and_eq_true, decide_eq_true_eq] at this; exact this.1
  have hfa : ∀ j, j < p.files.length → fileAt p.files j := by
    have := ok3; unfold filesOk filesAt at this; simp only [Bool.and_eq_true, decide_eq_true_eq] at this; exact this.2
  have hda : ∀ j, j < p.deps.length → depAt p.name p.deps j := by
    have := ok4; unfold depsOk depsAt at this; simp only [Bool.and_eq_true, decide_eq_true_eq] at this; exact this.2
  clear hI0 k0 k1 k2 al
  obtain ⟨b, hbe⟩ : ∃ b, w2.heap.size = b := ⟨_, rfl⟩
  rw [hbe] at hI4 hb4 hcell hold hlt hsz ⊢
  go_loopw [20] (fun i wr => ∃ (j : Nat) (acc : List UInt8), j ≤ p.files.length ∧ i = .int .i64 j ∧ acc = [bt (96 + p.name), bt (48 + p.ver)] ++ (p.files.take j).flatMap fileTx ∧ Lib.IsBuilderF 81 5 b b (Lib.byteCells acc) wr ∧ Below b w4 wr) (fun i _ => p.files.length - (RowKit.intOf i).toNat)
  case atStart => exact ⟨0, _, Nat.zero_le _, rfl, rfl, by simpa [Lib.strCells, Lib.byteCells] using hI4, hb4⟩
  case round =>
    obtain ⟨j, acc, hj, rfl, hacc, hI, hb⟩ := hrel
    by_cases hjn : j < p.files.length
    · have hjn' : j < (pF p.files).length := by omega
      have hfj := hfa j hjn
      unfold fileAt at hfj
      obtain ⟨F, hF⟩ : ∃ F, nth p.files j = F := ⟨_, rfl⟩
      rw [hF] at hfj
      have hget : (pF p.files)[j]? = some (F.path, F.data) := by unfold pF; rw [List.getElem?_map, get_nth hjn, hF]; rfl
      have hne : pF p.files ≠ [] := fun e => by rw [e] at hget; cases hget
      obtain ⟨fb, fo, rfl, hfb, hcl⟩ := m1 hne
      have hold1 := (hold wr hb).block fb hfb
      have ld := pairs_ld (W := wr) (t := 88) (tabR.ti 88 _ rfl) rfl rfl hcl hold1 hget
      obtain ⟨Wb, st, t2⟩ := two_new (w := wr) (t := 88) (tabR.ti 88 _ rfl) rfl F.path F.data
      have al := al_file wr
      have hbz : b ≤ wr.heap.size := by have := hb.size; omega
      have g0 := t2.c0
      have g1 := t2.c1
      have hIb := bld_keep hI t2.keep
      have hbb := below_two hb hbz t2
      have hbz2 : b ≤ Wb.heap.size := by have := t2.size; omega
      have hal2 : acc.length ≤ 10 := by
        rw [hacc, List.length_append, flat_len fileTx 4 (fun _ => rfl)]
        have := List.length_take_le j p.files
        simp; omega
      have hws := fun (s : ByteArray) (hs : s.size = 4) => ws_k b b (Lib.byteCells acc) s Wb.drew hIb (by rw [Lib.byteCells_length, hs]; omega) hbz2
      clear m1 hcl hcell hold hI
      go_wp2_with (first
        | (refine wpList_ld rfl 88 (.tmp 22) rfl _ (.agg #[.int .i64 F.path, .int .i64 F.data]) rfl ld ?_)
        | (refine wpList_al rfl 88 rfl _ al ?_)
        | (refine wpList_st rfl 88 (.tmp 5) (.tmp 23) rfl _ (.agg #[.int .i64 F.path, .int .i64 F.data]) rfl rfl st ?_))
      go_region_with (first
        | (go_at_call 42; first | (refine (itoa_small F.path (by omega) _).mono ?_; rintro e w' ⟨rfl, rfl⟩) | (refine (itoa_small F.data (by omega) _).mono ?_; rintro e w' ⟨rfl, rfl⟩))
        | (go_at_call 40; refine (hws _ rfl).mono ?_; rintro e W6 ⟨rfl, hI6, hb6⟩))
      all_goals
        go_wp2
        go_roundw
        case rel =>
          refine ⟨j + 1, acc ++ fileTx F, by omega, by go_num, ?_, by rw [Lib.byteCells_append]; exact hI6, hbb.trans ⟨hb6.os, hb6.tape, hb6.output, hb6.size, hb6.block⟩⟩
          rw [hacc, flat_take fileTx hjn, hF, List.append_assoc]
        case measure => simp [RowKit.intOf]; omega
    · obtain rfl : j = p.files.length := by omega
      rw [List.take_length] at hacc
      have k3 := hcell 3 _ rfl wr hb
      clear m1
      go_wp2
      go_loopw [38] (fun i wr => ∃ (j : Nat) (acc : List UInt8), j ≤ p.deps.length ∧ i = .int .i64 j ∧ acc = [bt (96 + p.name), bt (48 + p.ver)] ++ p.files.flatMap fileTx ++ (p.deps.take j).flatMap depTx ∧ Lib.IsBuilderF 81 5 b b (Lib.byteCells acc) wr ∧ Below b w4 wr) (fun i _ => p.deps.length - (RowKit.intOf i).toNat)
      case atStart => exact ⟨0, acc, Nat.zero_le _, rfl, by rw [hacc]; simp, hI, hb⟩
      case round =>
        clear hI hb hacc k3
        obtain ⟨j, acc, hj, rfl, hacc, hI, hb⟩ := hrel
        by_cases hjn : j < p.deps.length
        · have hfj := hda j hjn
          unfold depAt at hfj
          obtain ⟨F, hF⟩ : ∃ F, nth p.deps j = F := ⟨_, rfl⟩
          rw [hF] at hfj
          have hget : (pD p.deps)[j]? = some (F.name, F.least) := by unfold pD; rw [List.getElem?_map, get_nth hjn, hF]; rfl
          have hne : pD p.deps ≠ [] := fun e => by rw [e] at hget; cases hget
          obtain ⟨fb, fo, rfl, hfb, hcl⟩ := m2 hne
          have hold1 := (hold _ hb).block fb hfb
          have ld := pairs_ld (W := wr) (t := 91) (tabR.ti 91 _ rfl) rfl rfl hcl hold1 hget
          obtain ⟨Wb, st, t2⟩ := two_new (w := wr) (t := 91) (tabR.ti 91 _ rfl) rfl F.name F.least
          have al := al_dep wr
          have hbz : b ≤ wr.heap.size := by have := hb.size; omega
          have g0 := t2.c0
          have g1 := t2.c1
          have hIb := bld_keep hI t2.keep
          have hbb := below_two hb hbz t2
          have hbz2 : b ≤ Wb.heap.size := by have := t2.size; omega
          have hal2 : acc.length ≤ 16 := by
            rw [hacc, List.length_append, List.length_append, flat_len fileTx 4 (fun _ => rfl), flat_len depTx 3 (fun _ => rfl)]
            have := List.length_take_le j p.deps
            simp; omega
          have hws := fun (s : ByteArray) (hs : s.size = 3) => ws_k b b (Lib.byteCells acc) s Wb hIb (by rw [Lib.byteCells_length, hs]; omega) hbz2
          clear m2 hcl hcell hold hI
          go_wp2_with (first
            | (refine wpList_ld rfl 91 (.tmp 40) rfl _ (.agg #[.int .i64 F.name, .int .i64 F.least]) rfl ld ?_)
            | (refine wpList_al rfl 91 rfl _ al ?_)
            | (refine wpList_st rfl 91 (.tmp 7) (.tmp 41) rfl _ (.agg #[.int .i64 F.name, .int .i64 F.least]) rfl rfl st ?_)
            | (go_at_call 41; refine (named_walk F.name F.least (by omega) (by omega) _).mono ?_; rintro e w' ⟨rfl, e9⟩; subst e9)
            | (go_at_call 40; refine (hws _ rfl).mono ?_; rintro e W6 ⟨rfl, hI6, hb6⟩))
          go_roundw
          case rel =>
            refine ⟨j + 1, acc ++ depTx F, by omega, by go_num, ?_, by rw [Lib.byteCells_append]; exact hI6, hbb.trans hb6⟩
            rw [hacc, flat_take depTx hjn, hF, List.append_assoc, List.append_assoc]
          case measure => simp [RowKit.intOf]; omega
        · obtain rfl : j = p.deps.length := by omega
          rw [List.take_length] at hacc
          have hbz : b ≤ wr.heap.size := by have := hb.size; omega
          have hfin := hold
          clear m2 hcell hold
          go_wp2_with (go_at_call 43; refine (Tryz.Builder_String_any_k b b acc wr hI hbz).mono ?_; rintro e W7 ⟨rfl, -, hb7, -⟩)
          go_ret
          subst hacc
          exact ⟨rfl, hfin _ (hb.trans hb7)⟩
end Go.Proofs.YtebaiioejagfoaaGreatDoor

/- The exact laws' functions over packages as S says them: arrays of packages made and marked. -/
namespace Go.Proofs.YtebaiioejagfoaaGreatDoor
open Go
set_option linter.unusedVariables false
set_option linter.unusedSimpArgs false
set_option maxHeartbeats 4000000
set_option maxRecDepth 100000
noncomputable def relF (R : List SV → List SO → SV → List SO → Prop) : List SV → List SO → Out := fun args os =>
  open Classical in if h : ∃ q : SV × List SO, R args os q.1 q.2 then some h.choose else none
theorem relF_some {R : List SV → List SO → SV → List SO → Prop} {args : List SV} {os los : List SO} {r : SV} (h : relF R args os = some (r, los)) : R args os r los := by
  unfold relF at h
  split at h
  · rename_i hq
    have := hq.choose_spec
    rw [Option.some.inj h] at this
    exact this
  · cases h
theorem relF_of {R : List SV → List SO → SV → List SO → Prop} {args : List SV} {os los : List SO} {r : SV} (h : R args os r los) : ∃ r' los', relF R args os = some (r', los') ∧ R args os r' los' := by
  have hq : ∃ q : SV × List SO, R args os q.1 q.2 := ⟨(r, los), h⟩
  refine ⟨hq.choose.1, hq.choose.2, ?_, hq.choose_spec⟩
  unfold relF
  rw [dif_pos hq]
def mkP (p : TPkg) (k : Int) : TPkg := ⟨k, k + 1, markF (k + 1 + 1) p.files.length, markD (k + 1 + 1 + 2 * p.files.length) p.deps.length⟩
def kNext (p : TPkg) (k : Int) : Int := k + 1 + 1 + 2 * p.files.length + 2 * p.deps.length
def kAt (s : List TPkg) (k0 : Int) : Nat → Int
  | 0 => k0
  | i + 1 => kNext (nth s i) (kAt s k0 i)
def mkS (s : List TPkg) (k0 : Int) : Nat → List TPkg
  | 0 => s
  | i + 1 => (mkS s k0 i).set i (mkP (nth s i) (kAt s k0 i))
theorem mkS_len (s : List TPkg) (k0 : Int) : ∀ i, (mkS s k0 i).length = s.length
  | 0 => rfl
  | i + 1 => by rw [mkS, List.length_set, mkS_len s k0 i]
theorem mkS_nth (s : List TPkg) (k0 : Int) : ∀ i j, i ≤ j → nth (mkS s k0 i) j = nth s j
  | 0, j, _ => rfl
  | i + 1, j, h => by rw [mkS, nth_set', if_neg (by omega), mkS_nth s k0 i j (by omega)]
theorem kAt_bd {s : List TPkg} (hs : lowPkgs s) {k0 : Int} (h0 : 0 ≤ k0) : ∀ i : Nat, i ≤ s.length → k0 ≤ kAt s k0 i ∧ kAt s k0 i ≤ k0 + i * 4194306
  | 0, _ => by simp [kAt]
  | i + 1, h => by
    have h1 := kAt_bd hs h0 i (by omega)
    have h2 := hs.2 i (by omega)
    unfold lowPkg at h2
    simp only [kAt, kNext]
    omega
theorem s_markPkgS00 (k : Int) : Ex (fun m => callF prg m 24 [.sl 4 [], iI k] []) (iI k) [] := by
  refine ev_is.1 ?_
  (refine U24 (nl := 0) rfl ?_; unfold B24)
  repeat' (first | ((with_reducible refine eB ?_); first | ((with_reducible refine ev_lss ?_ ?_) <;> intro h <;> try (exfalso; omega)) | ((with_reducible refine ev_add ?_ ?_); · omega) | refine ev_bd rfl ?_ | refine ev_bd0 rfl ?_) | ((with_reducible refine eL ?_); first | ((with_reducible refine ev_lenm ?_ ?_); · rfl) | refine ev_lenom rfl rfl ?_ | refine ev_lenoc rfl rfl rfl ?_ | refine ev_lenc rfl rfl ?_ | refine ev_leno rfl rfl ?_ | refine ev_slen rfl ?_ | refine ev_bd rfl ?_ | refine ev_bd0 rfl ?_) | ((with_reducible refine eI ?_); first | ((with_reducible refine ev_idx ?_ ?_ ?_); (· rfl); · omega) | (refine ev_idxo rfl rfl ?_ ?_; (· first | omega | (simp only [List.length_cons, List.length_nil, List.length_map, List.length_append]; omega))) | refine ev_bd rfl ?_ | refine ev_bd0 rfl ?_) | ((with_reducible refine eC ?_); first | fail) | ((with_reducible refine eK ?_); first | (with_reducible first | refine ev_ct ?_ | refine ev_cf ?_) | ((with_reducible refine ev_cond ?_ ?_) <;> intro h)) | ((with_reducible refine eO ?_); first | refine ev_bd rfl ?_ | (refine ev_bdB rfl ?_ ?_ <;> intro h <;> try (exfalso; simp_all; done)) | refine ev_bd0 rfl ?_) | ((with_reducible refine eD ?_); first | refine ev_bd rfl ?_ | refine ev_bd0 rfl ?_) | ((with_reducible first | refine UL24_2 ?_ | refine VL24_2 ?_); (unfold LB24_2)) | refine ev_ret rfl ?_)
  all_goals first | exact ⟨rfl, rfl⟩ | (exfalso; omega) | trace_state
theorem s_markPkgSA (k : Int) : Ex (fun m => callF prg m 24 [.osl 0, iI k] [.arr true 4 []]) (iI k) [.arr true 4 []] := by
  refine ev_is.1 ?_
  (refine U24 (nl := 1) rfl ?_; unfold B24)
  repeat' (first | ((with_reducible refine eB ?_); first | ((with_reducible refine ev_lss ?_ ?_) <;> intro h <;> try (exfalso; omega)) | ((with_reducible refine ev_add ?_ ?_); · omega) | refine ev_bd rfl ?_ | refine ev_bd0 rfl ?_) | ((with_reducible refine eL ?_); first | ((with_reducible refine ev_lenm ?_ ?_); · rfl) | refine ev_lenom rfl rfl ?_ | refine ev_lenoc rfl rfl rfl ?_ | refine ev_lenc rfl rfl ?_ | refine ev_leno rfl rfl ?_ | refine ev_slen rfl ?_ | refine ev_bd rfl ?_ | refine ev_bd0 rfl ?_) | ((with_reducible refine eI ?_); first | ((with_reducible refine ev_idx ?_ ?_ ?_); (· rfl); · omega) | (refine ev_idxo rfl rfl ?_ ?_; (· first | omega | (simp only [List.length_cons, List.length_nil, List.length_map, List.length_append]; omega))) | refine ev_bd rfl ?_ | refine ev_bd0 rfl ?_) | ((with_reducible refine eC ?_); first | fail) | ((with_reducible refine eK ?_); first | (with_reducible first | refine ev_ct ?_ | refine ev_cf ?_) | ((with_reducible refine ev_cond ?_ ?_) <;> intro h)) | ((with_reducible refine eO ?_); first | refine ev_bd rfl ?_ | (refine ev_bdB rfl ?_ ?_ <;> intro h <;> try (exfalso; simp_all; done)) | refine ev_bd0 rfl ?_) | ((with_reducible refine eD ?_); first | refine ev_bd rfl ?_ | refine ev_bd0 rfl ?_) | ((with_reducible first | refine UL24_2 ?_ | refine VL24_2 ?_); (unfold LB24_2)) | refine ev_ret rfl ?_)
  all_goals first | exact ⟨rfl, rfl⟩ | (exfalso; omega) | trace_state
def MarkR (args : List SV) (os : List SO) (r : SV) (los : List SO) : Prop :=
  (∃ (s : List TPkg) (k : Int), lowPkgs s ∧ 0 ≤ k ∧ k ≤ 100000000000000 ∧ args = [.osl 0, iI k] ∧ os = [.nst true 4 (s.map ePkg)] ∧ r = iI (kAt s k s.length) ∧ los = [.nst true 4 ((mkS s k s.length).map ePkg)]) ∨
  ∃ k : Int, args = [.osl 0, iI k] ∧ os = [.arr true 4 []] ∧ r = iI k ∧ los = [.arr true 4 []]
theorem mem_nst {w w' : World} {A L B : Nat → Prop} {g : Nat → Gh} {l l' : List SV} (hm : Mem ⟨w.heap.size, A, L, w⟩ [.nst true 4 l] g w) (hL : ∀ b, live [.nst true 4 l] g b → L b) (ho : ObjOK w' B g 0 (.nst true 4 l')) (hs : w.heap.size ≤ w'.heap.size)
    (hw : ∀ c, c < w.heap.size → ¬ (g 0).has c → w'.heap[c]? = w.heap[c]?) (so : SameOut w w') : Mem ⟨w.heap.size, A, L, w⟩ [.nst true 4 l'] g w' where
  objs j o h := by
    obtain ⟨rfl, rfl⟩ := one_get h
    exact ho
  fresh j hj := hm.fresh j hj
  inj i j oi oj b hi hj _ _ _ _ := by rw [(one_get hi).1, (one_get hj).1]
  own b hb := by
    obtain ⟨j, o, h, -, hh⟩ := hb
    obtain ⟨rfl, rfl⟩ := one_get h
    have := hm.own b ⟨0, _, rfl, rfl, hh⟩
    exact ⟨Nat.lt_of_lt_of_le this.1 hs, this.2⟩
  mine j sz l b h _ := by cases (one_get h).2
  frame b hb hn := hw b hb (fun hh => hn (hL b ⟨0, _, rfl, rfl, hh⟩))
  size := hs
  out := so
theorem cell_of {w : World} {b o : Nat} {cs : List Value} (h : CellsAt w b o cs) {k : Nat} {v : Value} (hv : cs[k]? = some v) : w.cell? ⟨b, o + k, none⟩ = some v := h k v hv
theorem mark_step {w : World} {b m : Nat} {f : Nat → Nat → Nat} {ins : List Nat} {s : List TPkg} {k : Int} {i : Nat} {vs : List Value} (hp : PkS w b m f ins s vs) (hi : i < s.length) (hb : b < w.heap.size) (hins : ∀ c, c ∈ ins → c < w.heap.size)
    (h1 : (nth s i).files.length ≤ 2000000) (h2 : (nth s i).deps.length ≤ 2000000) (hk : 0 ≤ k ∧ k ≤ 922337203685477580) :
    ∃ v0 v1 s1, w.cell? ⟨b, i * 4, none⟩ = some v0 ∧ w.frozen? ⟨b, i * 4, none⟩ = false ∧
      (w.setCell ⟨b, i * 4, none⟩ (.int .i64 k)).cell? ⟨b, i * 4 + 1, none⟩ = some v1 ∧ (w.setCell ⟨b, i * 4, none⟩ (.int .i64 k)).frozen? ⟨b, i * 4 + 1, none⟩ = false ∧
      ((w.setCell ⟨b, i * 4, none⟩ (.int .i64 k)).setCell ⟨b, i * 4 + 1, none⟩ (.int .i64 (k + 1))).cell? ⟨b, i * 4 + 2, none⟩ = some s1 ∧
        Calls Tryz.prog 65 #[s1, .int .i64 (k + 1 + 1)] ((w.setCell ⟨b, i * 4, none⟩ (.int .i64 k)).setCell ⟨b, i * 4 + 1, none⟩ (.int .i64 (k + 1))) fun e w2 => ∃ k2, e = .returned (.int .i64 k2) ∧
          ∃ s2, w2.cell? ⟨b, i * 4 + 3, none⟩ = some s2 ∧ Calls Tryz.prog 66 #[s2, .int .i64 k2] w2 fun e w3 => ∃ k3, e = .returned (.int .i64 k3) ∧
            k3 = kNext (nth s i) k ∧ (∃ vs', PkS w3 b m f ins (s.set i (mkP (nth s i) k)) vs') ∧ (∀ c, c < w.heap.size → c ≠ b → c ∉ ins → w3.heap[c]? = w.heap[c]?) ∧ w.heap.size ≤ w3.heap.size ∧ SameOut w w3 := by
  obtain ⟨p, hpe⟩ : ∃ p, p = nth s i := ⟨_, rfl⟩
  obtain ⟨s1, s2, hv, i1, i2⟩ := hp.el i hi
  rw [← hpe] at h1 h2 hv i1 i2 ⊢
  have him : i * 4 + 4 ≤ m * 4 := by have := hp.cap; omega
  obtain ⟨W1, hW1⟩ : ∃ W1, W1 = w.setCell ⟨b, i * 4, none⟩ (.int .i64 k) := ⟨_, rfl⟩
  obtain ⟨W2, hW2⟩ : ∃ W2, W2 = W1.setCell ⟨b, i * 4 + 1, none⟩ (.int .i64 (k + 1)) := ⟨_, rfl⟩
  rw [← hW1, ← hW2]
  have e1 : W1 = w.setCells b (i * 4) [.int .i64 k] := hW1
  have e2 : W2 = w.setCells b (i * 4 + 0) [.int .i64 k, .int .i64 (k + 1)] := by rw [hW2, hW1]; rfl
  have R1 : Room W1 b (m * 4) 4 := by rw [e1]; exact room_setCells hp.room _ _
  have R2 : Room W2 b (m * 4) 4 := by rw [e2]; exact room_setCells hp.room _ _
  have C2 : CellsAt W2 b 0 (flatV (vs.set i (pkV ⟨k, k + 1, p.files, p.deps⟩ s1 s2))) := by
    rw [e2]; exact set_cells hp.room hp.cells hp.ok hv (by rw [hp.len]; exact hp.cap) rfl (by simp)
  have ivs : i < vs.length := by rw [hp.len]; exact hi
  have hok : ∀ v : Value, v ∈ vs.set i (pkV ⟨k, k + 1, p.files, p.deps⟩ s1 s2) → ElOK 4 v := fun v hv => by
    rcases List.mem_or_eq_of_mem_set hv with h | rfl
    · exact hp.ok v h
    · exact pk_one i1.one i2.one
  have hE := flatV_elem hok (List.getElem?_set_self ivs) C2
  rw [Nat.zero_add] at hE
  have O2 : ∀ c, c ≠ b → W2.heap[c]? = w.heap[c]? := fun c hc => by rw [e2]; exact heap_setCells_ne b c (fun e => hc e.symm) _ _ _
  have Z2 : W2.heap.size = w.heap.size := by rw [e2]; exact size_setCells _ _ _ _
  have S2 : SameOut w W2 := by rw [e2]; exact out_setCells _ _ _ _
  have hne1 : p.files ≠ [] → Ne s i 2 := fun h => ⟨hi, .inl ⟨rfl, by rw [← hpe]; exact h⟩⟩
  have hne2 : p.deps ≠ [] → Ne s i 3 := fun h => ⟨hi, .inr ⟨rfl, by rw [← hpe]; exact h⟩⟩
  have nb : ∀ c, c ∈ ins → c ≠ b := fun c hc e => hp.out (e ▸ hc)
  have I1 : In W2 (f i 2) (p.files.map eFile) s1 := i1.heap fun h => O2 _ (nb _ (hp.mem _ _ (hne1 (ne_files.1 h))))
  have I2 : In W2 (f i 3) (p.deps.map eDep) s2 := i2.heap fun h => O2 _ (nb _ (hp.mem _ _ (hne2 (ne_deps.1 h))))
  have q0 := room_cell hp.room (o := i * 4) (by omega)
  have q1 := room_cell R1 (o := i * 4 + 1) (by omega)
  obtain ⟨v0, hv0⟩ := Option.isSome_iff_exists.1 q0.1
  obtain ⟨v1, hv1⟩ := Option.isSome_iff_exists.1 q1.1
  refine ⟨v0, v1, s1, hv0, q0.2, hv1, q1.2, cell_of hE (k := 2) rfl, ?_⟩
  have m1 := mark_in (k := k + 1 + 1) (two_files p.files) (two_files (markF (k + 1 + 1) p.files.length)) (by simp [markF_len]) (by
    have := s_markFileS p.files (k + 1 + 1) (by omega) h1
    exact this) (fun h => by
    have h9 : p.files = [] := List.map_eq_nil_iff.1 h
    rw [h9]
    have := s_markFileS0 (k + 1 + 1)
    simpa using this) I1 (fun h => by rw [Z2]; exact hins _ (hp.mem _ _ (hne1 (ne_files.1 h))))
  refine m1.mono ?_
  rintro e w2 ⟨rfl, J1, U2, Y2, T2⟩
  have b2 : w2.heap[b]? = W2.heap[b]? := U2 b (by rw [Z2]; exact hb) fun h e => nb _ (hp.mem _ _ (hne1 (ne_files.1 h))) e.symm
  refine ⟨_, rfl, s2, by rw [cell?_heap b2]; exact cell_of hE (k := 3) rfl, ?_⟩
  have d32 : (p.files.map eFile) ≠ [] → (p.deps.map eDep) ≠ [] → f i 3 ≠ f i 2 := fun h h' e => by
    have := (hp.inj _ _ _ _ (hne2 (ne_deps.1 h')) (hne1 (ne_files.1 h)) e).2
    omega
  have I2' : In w2 (f i 3) (p.deps.map eDep) s2 := I2.heap fun h => U2 _ (by rw [Z2]; exact hins _ (hp.mem _ _ (hne2 (ne_deps.1 h)))) fun h' => d32 h' h
  have m2 := mark_in (k := k + 1 + 1 + 2 * p.files.length) (two_deps p.deps) (two_deps (markD (k + 1 + 1 + 2 * p.files.length) p.deps.length)) (by simp [markD_len]) (by
    have := s_markDepS p.deps (k + 1 + 1 + 2 * p.files.length) (by omega) h2
    exact this) (fun h => by
    have h9 : p.deps = [] := List.map_eq_nil_iff.1 h
    rw [h9]
    have := s_markDepS0 (k + 1 + 1 + 2 * p.files.length)
    simpa using this) I2' (fun h => by have := hins _ (hp.mem _ _ (hne2 (ne_deps.1 h))); omega)
  refine m2.mono ?_
  rintro e w3 ⟨rfl, J2, U3, Y3, T3⟩
  have b3 : w3.heap[b]? = W2.heap[b]? := (U3 b (by omega) fun h e => nb _ (hp.mem _ _ (hne2 (ne_deps.1 h))) e.symm).trans b2
  have oth : ∀ c, c < w.heap.size → c ≠ b → (p.files ≠ [] → c ≠ f i 2) → (p.deps ≠ [] → c ≠ f i 3) → w3.heap[c]? = w.heap[c]? := fun c hc h3 h4 h5 =>
    ((U3 c (by omega) fun h => h5 (ne_deps.1 h)).trans (U2 c (by omega) fun h => h4 (ne_files.1 h))).trans (O2 c h3)
  have lenF : ∀ {p : TPkg} {k : Int}, (mkP p k).files ≠ [] → p.files ≠ [] := fun {p k} h e => h (by simp [mkP, e, markF])
  have lenD : ∀ {p : TPkg} {k : Int}, (mkP p k).deps ≠ [] → p.deps ≠ [] := fun {p k} h e => h (by simp [mkP, e, markD])
  refine ⟨_, rfl, rfl, ⟨_, hp.upd (f' := f) (ins' := ins) (p := mkP p k) (s1 := s1) (s2 := s2) hi (fun _ _ _ => rfl) (C2.heap b3) (R2.same b3) ?_ ?_ J2 hp.out (fun _ h => h) (fun h => hp.mem _ _ (hne1 (lenF h))) (fun h => hp.mem _ _ (hne2 (lenD h))) ?_ ?_⟩, ?_, by omega, S2.trans (T2.trans T3)⟩
  · intro j c hj hn
    have hc := hp.mem _ _ hn
    exact oth _ (hins _ hc) (nb _ hc) (fun h e => hj (hp.inj _ _ _ _ hn (hne1 h) e).1) (fun h e => hj (hp.inj _ _ _ _ hn (hne2 h) e).1)
  · exact J1.heap fun h => U3 _ (by have := hins _ (hp.mem _ _ (hne1 (lenF (k := k) (ne_files.1 h)))); omega) fun h' e => d32 (ne_files.2 (lenF (k := k) (ne_files.1 h))) h' e.symm
  · intro j c hj hn
    exact ⟨fun h e => hj (hp.inj _ _ _ _ (hne1 (lenF h)) hn e).1.symm, fun h e => hj (hp.inj _ _ _ _ (hne2 (lenD h)) hn e).1.symm⟩
  · intro h h' e
    exact d32 (ne_files.2 (lenF h)) (ne_deps.2 (lenD h')) e.symm
  · intro c hc h3 h4
    exact oth c hc h3 (fun h e => h4 (e ▸ hp.mem _ _ (hne1 h))) (fun h e => h4 (e ▸ hp.mem _ _ (hne2 h)))
theorem mark_ok : KOK1 Tryz.prog 24 (relF MarkR) := by
  intro args los los' r h
  refine ⟨⟨_, _, Tryz.func24, by kernel_rfl, rfl⟩, ?_⟩
  rcases relF_some h with ⟨s, k, hs, hk0, hk1, rfl, rfl, rfl, rfl⟩ | ⟨k, rfl, rfl, rfl, rfl⟩
  rotate_left
  · obtain ⟨n0, hn0⟩ := s_markPkgSA k
    exact (callF_ok prgR n0 _ _ _ _ _ (hn0 n0 (Nat.le_refl _))).2
  intro A L g vals w hL hm ha
  obtain ⟨v0, vals, rfl, h0, ha⟩ := ha.uncons
  obtain ⟨v1, vals, rfl, h1, ha⟩ := ha.uncons
  obtain rfl : vals = [] := by have := ha.1; cases vals <;> simp at this ⊢
  obtain rfl := iI_rep h1
  by_cases hse : s = []
  · subst hse
    obtain ⟨a, c, rfl⟩ : ∃ a c, v0 = .slice a 0 c := by
      rcases hm.objs 0 _ rfl with ⟨-, hn⟩ | ⟨b, m, vs, ins, e1, -⟩
      · cases h0 with
        | osl0 => exact ⟨_, _, rfl⟩
        | osl hg => rw [hn] at hg; cases hg
        | osln hg => rw [hn] at hg; cases hg
      · cases h0 with
        | osl0 => exact ⟨_, _, rfl⟩
        | osl hg => rw [e1] at hg; cases hg
        | osln hg => rw [e1] at hg; cases hg; exact ⟨_, _, rfl⟩
    obtain ⟨n0, hn0⟩ := s_markPkgS00 k
    obtain ⟨-, hk⟩ := callF_ok prgR n0 _ _ _ _ _ (hn0 n0 (Nat.le_refl _))
    refine (hk (fun _ => True) (fun _ => False) G0 [.slice a 0 c, .int .i64 k] w (fun b hb => (live_nil hb).elim) (mem_nil w _ _) (RepL.cons .sl0 (RepL.cons (.v rfl) RepL.nil))).mono ?_
    rintro e w' ⟨v, g', rfl, m, -, hr, -⟩
    obtain rfl := iI_rep hr
    have hw : ∀ c, c < w.heap.size → w'.heap[c]? = w.heap[c]? := fun c hc => m.frame c hc id
    refine ⟨_, g, rfl, mem_nst (B := Bk ⟨w.heap.size, A, L, w⟩ [.nst true 4 []] g w) hm hL ?_ m.size (fun c hc _ => hw c hc) m.out, fun _ _ _ => rfl, .v rfl, Nat.le_refl _⟩
    exact (hm.objs 0 _ rfl).mono (fun b h => h) (fun b h => hw b h.1) (fun _ _ => rfl) (fun b _ hb => hw b (hm.own b ⟨0, _, rfl, rfl, hb⟩).1)
  · obtain ⟨b, m, f, ins, vs, hg, hp⟩ := PkS.of (hm.objs 0 _ rfl) hse
    obtain rfl : v0 = .slice (some ⟨b, 0, none⟩) s.length m := by
      cases h0 with
      | osl0 h9 => rw [hg] at h9; cases h9
      | osl h9 => rw [hg] at h9; cases h9
      | osln h9 => rw [hg] at h9; cases h9; rfl
    have own : ∀ c, (b = c ∨ c ∈ ins) → c < w.heap.size := fun c hc => (hm.own c ⟨0, _, rfl, rfl, by rw [hg]; exact hc⟩).1
    refine (mark_walk (I := fun i q wr => i ≤ s.length ∧ q = kAt s k i ∧ (∃ vs, PkS wr b m f ins (mkS s k i) vs) ∧ (∀ c, c < w.heap.size → c ≠ b → c ∉ ins → wr.heap[c]? = w.heap[c]?) ∧ w.heap.size ≤ wr.heap.size ∧ SameOut w wr) hs.len
      ⟨Nat.zero_le _, rfl, ⟨vs, hp⟩, fun _ _ _ _ => rfl, Nat.le_refl _, SameOut.refl _⟩ ?_ ?_).mono ?_
    · rintro i q wr ⟨hi, rfl, -⟩
      have := kAt_bd hs hk0 i hi
      have := hs.1
      omega
    · rintro i q wr hi ⟨-, rfl, ⟨vs', hp'⟩, hw, hz, so⟩
      have hbd := kAt_bd hs hk0 i (by omega)
      have hl := hs.1
      have hlow := hs.2 i hi
      unfold lowPkg at hlow
      have hni : nth (mkS s k i) i = nth s i := mkS_nth s k i i (Nat.le_refl _)
      have hst := mark_step hp' (i := i) (k := kAt s k i) (by rw [mkS_len]; exact hi) (by have := own b (.inl rfl); omega) (fun c hc => by have := own c (.inr hc); omega) (by rw [hni]; omega) (by rw [hni]; omega) (by omega)
      rw [hni] at hst
      obtain ⟨v0, v1, s1, a1, a2, a3, a4, a5, a6⟩ := hst
      refine ⟨v0, v1, s1, a1, a2, a3, a4, a5, a6.mono ?_⟩
      rintro e w2 ⟨k2, rfl, s2, c1, c2⟩
      refine ⟨k2, rfl, s2, c1, c2.mono ?_⟩
      rintro e w3 ⟨k3, rfl, rfl, d2, d3, d4, d5⟩
      exact ⟨_, rfl, by omega, rfl, d2, fun c hc h3 h4 => (d3 c (by omega) h3 h4).trans (hw c hc h3 h4), by omega, so.trans d5⟩
    · rintro e w' ⟨k', rfl, -, rfl, ⟨vs', hp'⟩, hw, hz, so⟩
      refine ⟨_, g, rfl, mem_nst (B := fun _ => True) hm hL (hp'.obj (by rw [mkS_len]; exact hg) true _) hz (fun c hc hn => hw c hc (fun e => hn (by rw [hg]; exact .inl e.symm)) (fun e => hn (by rw [hg]; exact .inr e))) so, fun _ _ _ => rfl, .v rfl, Nat.le_refl _⟩
end Go.Proofs.YtebaiioejagfoaaGreatDoor

/- The exact laws' functions over packages as S says them: an array of packages, made. -/
namespace Go.Proofs.YtebaiioejagfoaaGreatDoor
open Go
set_option linter.unusedVariables false
set_option linter.unusedSimpArgs false
set_option maxHeartbeats 4000000
set_option maxRecDepth 100000
def dnS (s : List TPkg) : Nat → List TPkg
  | 0 => List.replicate s.length zPkg
  | i + 1 => (dnS s i).set i (nth s i)
theorem dnS_len (s : List TPkg) : ∀ i, (dnS s i).length = s.length
  | 0 => by simp [dnS]
  | i + 1 => by rw [dnS, List.length_set, dnS_len s i]
theorem dnS_nth (s : List TPkg) : ∀ i j, j < i → i ≤ s.length → nth (dnS s i) j = nth s j
  | 0, j, h, _ => by omega
  | i + 1, j, h, hi => by
    rw [dnS, nth_set']
    split
    · rename_i e; rw [e.1]
    · rename_i e
      rw [dnS_len] at e
      exact dnS_nth s i j (by omega) (by omega)
theorem dnS_all (s : List TPkg) : dnS s s.length = s := eq_of_nth (dnS_len s _) fun j hj => by rw [dnS_len] at hj; exact dnS_nth s _ j hj (Nat.le_refl _)
theorem nth_rep {α : Type} [Inhabited α] {n i : Nat} {a : α} (h : i < n) : nth (List.replicate n a) i = a := by
  unfold nth
  rw [List.getD_eq_getElem?_getD, List.getElem?_replicate, if_pos h]; rfl
theorem pks_zero {w : World} {B : Nat → Prop} {n b m : Nat} {vs : List Value} (hr : RepL w B G0 ((List.replicate n zPkg).map ePkg) vs) (hc : CellsAt w b 0 (flatV vs)) (hm : n ≤ m) (hR : Room w b (m * 4) 4) : PkS w b m (fun _ _ => 0) [] (List.replicate n zPkg) vs := by
  have hz : ∀ i c, ¬ Ne (List.replicate n zPkg) i c := fun i c h => by
    obtain ⟨h1, h2⟩ := h
    rw [List.length_replicate] at h1
    rw [nth_rep h1] at h2
    simp [zPkg] at h2
  refine ⟨by rw [List.length_replicate]; exact hm, by rw [← hr.1, List.length_map], fun i hi => ?_, hc, hR, by simp, fun i c h => absurd h (hz i c), fun i c _ _ h => absurd h (hz i c)⟩
  obtain ⟨v, hv, h⟩ := hr.get (get_map (e := ePkg) hi)
  obtain ⟨v0, v1, v2, v3, rfl, r0, r1, r2, r3⟩ := ag4 h
  obtain rfl := iI_rep r0
  obtain rfl := iI_rep r1
  rw [List.length_replicate] at hi
  rw [nth_rep hi] at r2 r3 hv ⊢
  exact ⟨v2, v3, hv, .inl ⟨rfl, sl_nil r2 rfl⟩, .inl ⟨rfl, sl_nil r3 rfl⟩⟩
theorem arr_nst0 {fr : Fr} {g : Nat → Gh} {w : World} {B : Nat → Prop} {v : Value} (hm : Mem fr [.arr false 4 []] g w) (hv : RepV w B g (.osl 0) v) : ∃ g', Mem fr [.nst false 4 []] g' w ∧ RepV w (Bk fr [.nst false 4 []] g' w) g' (.osl 0) v := by
  have mk : ∀ x : Gh, (∀ b, x.has b → (g 0).has b) → ObjOK w (Bk fr [.nst false 4 []] (gOne x) w) (gOne x) 0 (.nst false 4 []) → Mem fr [.nst false 4 []] (gOne x) w := fun x hx ho =>
    { objs := fun j o h => by obtain ⟨rfl, rfl⟩ := one_get h; exact ho
      fresh := fun j hj => if_neg (by simp at hj; omega)
      inj := fun i j oi oj b hi hj _ _ _ _ => by rw [(one_get hi).1, (one_get hj).1]
      own := fun b hb => by
        obtain ⟨j, o, h, -, hh⟩ := hb
        obtain ⟨rfl, rfl⟩ := one_get h
        exact hm.own b ⟨0, _, rfl, rfl, hx b hh⟩
      mine := fun j sz l b h _ => by cases (one_get h).2
      frame := hm.frame
      size := hm.size
      out := hm.out }
  rcases hm.objs 0 _ rfl with ⟨-, hn⟩ | ⟨b, cap, vs, e1, e2, e3, e4, e5, e6⟩
  · refine ⟨gOne .nil, mk .nil (fun b h => h.elim) (.inl ⟨rfl, rfl⟩), ?_⟩
    cases hv with
    | osl0 => exact .osl0 rfl
    | osl h9 => rw [hn] at h9; cases h9
    | osln h9 => rw [hn] at h9; cases h9
  · refine ⟨gOne (.nst b 4 0 cap []), mk _ (fun c h => ?_) (.inr ⟨b, cap, [], [], rfl, Nat.zero_le _, RepL.nil, (fun v hv => absurd hv List.not_mem_nil), (fun k v h => by simp [flatV] at h), e6, List.not_mem_nil, (fun i c => (i + c) * (i + c) + c), (fun i c x v sz m h => by simp at h), (fun i c i' c' h => pair_inj h)⟩), ?_⟩
    · rw [e1]
      rcases h with h | h
      · exact h
      · cases h
    · cases hv with
      | osl0 h9 => rw [e1] at h9; cases h9
      | osl h9 => rw [e1] at h9; cases h9; exact .osln rfl
      | osln h9 => rw [e1] at h9; cases h9
def ToR (args : List SV) (os : List SO) (r : SV) (los : List SO) : Prop :=
  ∃ s : List TPkg, lowPkgs s ∧ args = [.sl 4 (s.map ePkg)] ∧ os = [] ∧ r = .osl 0 ∧ los = [.nst false 4 (s.map ePkg)]
theorem to_make (n : Nat) (hn : n ≤ 2000000) : makeS tab [] 23 (iI n) (iI n) = some (.osl 0, [.arr false 4 ((List.replicate n zPkg).map ePkg)]) := by
  have hu : tab.und 23 = some (.slice 35) := rfl
  obtain ⟨q, hq, h1, h2, h3⟩ : ∃ q, tab.ti 35 = some q ∧ q.size = 4 ∧ q.bytes = 64 ∧ pack q.agg (zeroP q.zero) = some (ePkg zPkg) := ⟨_, rfl, rfl, rfl, rfl⟩
  simp only [makeS, hu, hq, h1, h2, h3]
  rw [if_pos ⟨by omega, by omega, by omega, by omega⟩, List.map_replicate]
  rfl
theorem to_ok : KOK1 Tryz.prog 18 (relF ToR) := by
  intro args los los' r h
  refine ⟨⟨_, _, Tryz.func18, by kernel_rfl, rfl⟩, ?_⟩
  obtain ⟨s, hs, rfl, rfl, rfl, rfl⟩ := relF_some h
  intro A L g vals w hL hm ha
  obtain ⟨v0, vals, rfl, h0, ha⟩ := ha.uncons
  obtain rfl : vals = [] := by have := ha.1; cases vals <;> simp at this ⊢
  by_cases hse : s = []
  · subst hse
    obtain ⟨n0, hn0⟩ := s_toPkgS [] hs
    obtain ⟨-, hk⟩ := callF_ok prgR n0 _ _ _ _ _ (hn0 n0 (Nat.le_refl _))
    refine (hk A L g [v0] w hL hm (RepL.cons h0 RepL.nil)).mono ?_
    rintro e w' ⟨v, g', rfl, m, -, hr, -⟩
    obtain ⟨g2, m2, r2⟩ := arr_nst0 m hr
    exact ⟨v, g2, rfl, m2, fun j hj => absurd hj (Nat.not_lt_zero _), r2, Nat.zero_le _⟩
  have hn0 : 0 < s.length := List.length_pos_iff.2 hse
  obtain ⟨ab, ao, c, vsA, rfl, hA, hE, hC, hB⟩ : ∃ ab ao c vsA, v0 = .slice (some ⟨ab, ao, none⟩) s.length c ∧ RepL w (Bk ⟨w.heap.size, A, L, w⟩ [] g w) G0 (s.map ePkg) vsA ∧ (∀ v : Value, v ∈ vsA → ElOK 4 v) ∧ CellsAt w ab ao (flatV vsA) ∧ Bk ⟨w.heap.size, A, L, w⟩ [] g w ab := by
    obtain ⟨l, hl⟩ : ∃ l, l = s.map ePkg := ⟨_, rfl⟩
    have hll : l.length = s.length := by rw [hl, List.length_map]
    rw [← hl] at h0 ⊢
    cases h0 with
    | sl0 => exact absurd (List.map_eq_nil_iff.1 hl.symm) hse
    | sl a1 a2 a3 a4 a5 a6 => exact ⟨_, _, _, _, by rw [hll], ⟨a1, a2⟩, a3, a4, a5⟩
  obtain ⟨vm, w1, hmk, g1, m1, -, r1⟩ := make_rep tabR (mem_nil w (fun _ => True) (fun _ => False)) (t := 23) (n := iI s.length) (c := iI s.length) (.v rfl) (.v rfl) (to_make s.length hs.len)
  obtain ⟨b, m, vs, e1, e2, e3, e4, e5, e6⟩ : ∃ b cap vs, g1 0 = .blk b 4 s.length cap ∧ s.length ≤ cap ∧ RepL w1 (Bk ⟨w.heap.size, fun _ => True, fun _ => False, w⟩ [.arr false 4 ((List.replicate s.length zPkg).map ePkg)] g1 w1) G0 ((List.replicate s.length zPkg).map ePkg) vs ∧ (∀ v : Value, v ∈ vs → ElOK 4 v) ∧ CellsAt w1 b 0 (flatV vs) ∧ Room w1 b (cap * 4) 4 := by
    rcases m1.objs 0 _ rfl with ⟨h9, -⟩ | ⟨b, cap, vs, e1, e2, e3, e4, e5, e6⟩
    · have := congrArg List.length h9
      simp at this
      exact absurd this hse
    · rw [List.length_map, List.length_replicate] at e1 e2
      exact ⟨b, cap, vs, e1, e2, e3, e4, e5, e6⟩
  obtain rfl : vm = .slice (some ⟨b, 0, none⟩) s.length m := by
    cases r1 with
    | osl0 h9 => rw [e1] at h9; cases h9
    | osl h9 => rw [e1] at h9; cases h9; rfl
    | osln h9 => rw [e1] at h9; cases h9
  have hbN : w.heap.size ≤ b := m1.mine 0 _ _ b rfl (by rw [e1]; rfl)
  have hbz : b < w1.heap.size := (m1.own b ⟨0, _, rfl, rfl, by rw [e1]; rfl⟩).1
  have hlen := hs.len
  have hNB : ∀ c, Bk ⟨w.heap.size, A, L, w⟩ [] g w c → c < w.heap.size := fun c hc => hc.1
  refine (topk_walk (I := fun i wr => i ≤ s.length ∧ (∃ f ins vs, PkS wr b m f ins (dnS s i) vs ∧ (∀ c, c ∈ ins → w.heap.size ≤ c ∧ c < wr.heap.size)) ∧ b < wr.heap.size ∧ (∀ c, c < w.heap.size → wr.heap[c]? = w.heap[c]?) ∧ w.heap.size ≤ wr.heap.size ∧ SameOut w wr) hlen hmk
    ⟨Nat.zero_le _, ⟨_, _, _, pks_zero e3 e5 e2 e6, fun c hc => absurd hc List.not_mem_nil⟩, hbz, fun c hc => m1.frame c hc id, m1.size, m1.out⟩ ?_).mono ?_
  · rintro i wr hi ⟨-, ⟨f, ins, vs', hp, hin⟩, hbr, hw, hz, so⟩
    obtain ⟨pv, hpv, hpr⟩ := hA.get (get_map (e := ePkg) hi)
    have hcell := flatV_elem hE hpv hC
    have hlow := hs.2 i hi
    unfold lowPkg at hlow
    obtain ⟨p, hpe⟩ : ∃ p, p = nth s i := ⟨_, rfl⟩
    rw [← hpe] at hpr hlow
    have hpr' : RepV wr (Bk ⟨w.heap.size, A, L, w⟩ [] g w) G0 (ePkg p) pv := hpr.mono (fun _ h => h) (fun c hc => hw c (hNB c hc)) G0 (fun _ h => h.elim rfl)
    refine ⟨pv, ?_, ?_⟩
    · obtain ⟨v0, v1, v2, v3, rfl, -⟩ := ag4 hpr
      exact (run_loadAt (tabR.ti 101 _ rfl) (hcell.heap (hw _ (hNB _ hB))) (Nat.le_refl _)).1 rfl
    · refine (topk_in (p := p) (by omega) (by omega) hpr' (fun c hc => by have := hNB c hc; omega)).mono ?_
      rintro e w2 ⟨β1, β2, s1, s2, rfl, i1, i2, n1, n2, n3, u2, z2, t2⟩
      have R2 : Room w2 b (m * 4) 4 := hp.room.same (u2 b hbr)
      have C2 : CellsAt w2 b 0 (flatV vs') := hp.cells.heap (u2 b hbr)
      have hid : i < (dnS s i).length := by rw [dnS_len]; exact hi
      have hcap := hp.cap
      rw [dnS_len] at hcap
      obtain ⟨t1, t2', hvi, -, -⟩ := hp.el i hid
      have hE4 : ElOK 4 (pkV p s1 s2) := pk_one i1.one i2.one
      have O3 : ∀ c, c ≠ b → (w2.setCells b (i * 4) (pkV p s1 s2).cells.toList).heap[c]? = w2.heap[c]? := fun c hc => heap_setCells_ne b c (fun e => hc e.symm) _ _ _
      have Z3 : (w2.setCells b (i * 4) (pkV p s1 s2).cells.toList).heap.size = w2.heap.size := size_setCells _ _ _ _
      have nbi : ∀ c, c ∈ ins → c ≠ b := fun c hc e => hp.out (e ▸ hc)
      refine ⟨_, rfl, w2.setCells b (i * 4) (pkV p s1 s2).cells.toList, ?_, by omega, ?_, by omega, fun c hc => ?_, by omega, (so.trans t2).trans (out_setCells _ _ _ _)⟩
      · exact run_storeVar (tabR.ti 35 _ rfl) R2 hE4.1 (by show i * 4 + 4 ≤ m * 4; omega) hE4.2
      · refine ⟨fun j c => if j = i then (if c = 2 then β1 else β2) else f j c, (if p.files = [] then [] else [β1]) ++ (if p.deps = [] then [] else [β2]) ++ ins, vs'.set i (pkV p s1 s2), ?_, ?_⟩
        · rw [dnS, ← hpe]
          refine hp.upd hid (fun j c hj => if_neg hj) ?_ (room_setCells R2 _ _) ?_ ?_ ?_ ?_ (fun c hc => by simp [hc]) (fun h => by simp [h]) (fun h => by simp [h]) ?_ ?_
          · exact set_cells (off := 0) R2 C2 hp.ok hvi (by rw [hp.len, dnS_len]; exact hcap) rfl (by have := hE4.1; simp [this])
          · intro j c hj hn
            have hc := hp.mem _ _ hn
            exact (O3 _ (nbi _ hc)).trans (u2 _ (hin _ hc).2)
          · show In _ (if i = i then (if 2 = 2 then β1 else β2) else f i 2) _ _
            rw [if_pos rfl, if_pos rfl]
            exact i1.heap fun h => O3 _ (by have := (n1 (ne_files.1 h)).1; omega)
          · show In _ (if i = i then (if 3 = 2 then β1 else β2) else f i 3) _ _
            rw [if_pos rfl, if_neg (by decide)]
            exact i2.heap fun h => O3 _ (by have := (n2 (ne_deps.1 h)).1; omega)
          · intro h
            simp only [List.mem_append] at h
            rcases h with (h | h) | h
            · split at h
              · cases h
              · rename_i q; have := (n1 q).1; simp at h; omega
            · split at h
              · cases h
              · rename_i q; have := (n2 q).1; simp at h; omega
            · exact hp.out h
          · intro j c hj hn
            have := (hin _ (hp.mem _ _ hn)).2
            refine ⟨fun h => ?_, fun h => ?_⟩
            · have := (n1 h).1
              simp only [if_true]; omega
            · have := (n2 h).1
              simp only [if_true]
              rw [if_neg (by decide)]; omega
          · intro h h'
            simp only [if_true]
            rw [if_neg (by decide)]
            exact n3 h h'
        · intro c hc
          rw [Z3]
          simp only [List.mem_append] at hc
          rcases hc with (h | h) | h
          · split at h
            · cases h
            · rename_i q; have := n1 q; simp at h; omega
          · split at h
            · cases h
            · rename_i q; have := n2 q; simp at h; omega
          · have := hin _ h; omega
      · rw [O3 c (by omega), u2 c (by omega)]; exact hw c hc
  · rintro e w' ⟨rfl, -, ⟨f, ins, vs', hp, hin⟩, hbr, hw, hz, so⟩
    rw [dnS_all] at hp
    have hg : gOne (.nst b 4 s.length m ins) 0 = .nst b 4 s.length m ins := rfl
    refine ⟨_, gOne (.nst b 4 s.length m ins), rfl, ?_, fun j hj => absurd hj (Nat.not_lt_zero _), .osln hg, Nat.zero_le _⟩
    exact
      { objs := fun j o h => by obtain ⟨rfl, rfl⟩ := one_get h; exact hp.obj hg false _
        fresh := fun j hj => if_neg (by simp at hj; omega)
        inj := fun i j oi oj b hi hj _ _ _ _ => by rw [(one_get hi).1, (one_get hj).1]
        own := fun c hc => by
          obtain ⟨j, o, h, -, hh⟩ := hc
          obtain ⟨rfl, rfl⟩ := one_get h
          rcases hh with rfl | hh
          · exact ⟨hbr, fun h => absurd h (by dsimp only; omega)⟩
          · have := hin _ hh
            exact ⟨this.2, fun h => absurd h (by dsimp only; omega)⟩
        mine := fun j sz l b h _ => by cases (one_get h).2
        frame := fun c hc _ => hw c hc
        size := hz
        out := so }
end Go.Proofs.YtebaiioejagfoaaGreatDoor

/- impl.PkgText as S says it. -/
set_option linter.unusedVariables false
set_option linter.unusedSimpArgs false
namespace Go.Proofs.YtebaiioejagfoaaGreatDoor
open Go Go.Shelf Go.RowKit Go.Lib Go.Proofs
set_option maxHeartbeats 4000000
set_option maxRecDepth 100000
theorem text_none {p : TPkg} {w : World} {s1 s2 : Value} (hpk : ∀ w1, w.heap.size ≤ w1.heap.size → (∀ k, k < w.heap.size → w1.heap[k]? = w.heap[k]?) → Calls Tryz.prog 39 #[pkV p s1 s2] w1 fun e w2 => e = .returned (.bool false) ∧ Below w1.heap.size w1 w2) :
    Calls Tryz.prog 11 #[pkV p s1 s2] w fun e w' => e = .returned (.string ⟨#[]⟩) ∧ Below w.heap.size w w' := by
  have mixed : Tryz.prog.follows .mixedOrders = true := by kernel_rfl
  simp only [pkV] at hpk ⊢
  go_enter Tryz.func11, Tryz.ntmps11
  go_wp2_with (go_at_call 39; refine (hpk _ (by simp) (fun k hk => heap_alloc_lt w _ k hk)).mono ?_; rintro e w2 ⟨rfl, hb2⟩)
  go_ret
  refine ⟨rfl, hb2.os, hb2.tape, hb2.output, by have := hb2.size; simp at this; omega, fun k hk => ?_⟩
  rw [hb2.block k (by simp; omega)]
  exact heap_alloc_lt w _ k hk
def TextR (args : List SV) (os : List SO) (r : SV) (los : List SO) : Prop :=
  ∃ p : TPkg, p.files.length ≤ 2000000 ∧ p.deps.length ≤ 2000000 ∧ args = [ePkg p] ∧ os = [] ∧ r = sS (pkgText p) ∧ los = []
theorem mem_below {w w' : World} {A L : Nat → Prop} {g : Nat → Gh} (hm : Mem ⟨w.heap.size, A, L, w⟩ [] g w) (h : Below w.heap.size w w') : Mem ⟨w.heap.size, A, L, w⟩ [] g w' where
  objs j o hj := by simp at hj
  fresh := hm.fresh
  inj i j oi oj b hi := by simp at hi
  own b hb := (live_nil hb).elim
  mine j sz l b hj := by simp at hj
  frame b hb _ := h.block b hb
  size := h.size
  out := ⟨h.os, h.tape, h.output⟩
theorem text_ok : KOK1 Tryz.prog 11 (relF TextR) := by
  intro args los los' r h
  refine ⟨⟨_, _, Tryz.func11, by kernel_rfl, rfl⟩, ?_⟩
  obtain ⟨p, hf, hd, rfl, rfl, rfl, rfl⟩ := relF_some h
  intro A L g vals w hL hm ha
  obtain ⟨v0, vals, rfl, h0, ha⟩ := ha.uncons
  obtain rfl : vals = [] := by have := ha.1; cases vals <;> simp at this ⊢
  have hall := h0
  obtain ⟨u0, u1, s1, s2, rfl, r0, r1, r2, r3⟩ := ag4 h0
  obtain rfl := iI_rep r0
  obtain rfl := iI_rep r1
  have hB : ∀ b, Bk ⟨w.heap.size, A, L, w⟩ [] g w b → b < w.heap.size := fun b h => h.1
  have hpk : ∀ w1, w.heap.size ≤ w1.heap.size → (∀ k, k < w.heap.size → w1.heap[k]? = w.heap[k]?) → Calls Tryz.prog 39 #[pkV p s1 s2] w1 fun e w2 => e = .returned (.bool (pkgOk p)) ∧ Below w1.heap.size w1 w2 := by
    intro w1 hz1 hw1
    obtain ⟨n0, hn0⟩ := s_PkgOkI p.name p.ver p.files p.deps hf hd
    obtain ⟨-, hk⟩ := callF_ok prgR n0 _ _ _ _ _ (hn0 n0 (Nat.le_refl _))
    have hr : RepV w1 (Bk ⟨w1.heap.size, fun _ => True, fun _ => False, w1⟩ [] G0 w1) G0 (ePkg p) (pkV p s1 s2) :=
      hall.mono (fun b hb => bk_nil (by have := hB b hb; omega) trivial) (fun b hb => hw1 b (hB b hb)) G0 (fun j hj => absurd (hm.fresh j (Nat.zero_le _)) hj)
    refine (hk (fun _ => True) (fun _ => False) G0 [pkV p s1 s2] w1 (fun b hb => (live_nil hb).elim) (mem_nil w1 _ _) (RepL.cons hr RepL.nil)).mono ?_
    rintro e w2 ⟨v, g', rfl, m, -, hv, -⟩
    cases hv
    exact ⟨rfl, m.out.1, m.out.2.1, m.out.2.2, m.size, fun k hk => m.frame k hk id⟩
  have fin : Calls Tryz.prog 11 #[pkV p s1 s2] w fun e w' => e = .returned (.string ⟨(pkgText p).toArray⟩) ∧ Below w.heap.size w w' := by
    unfold pkgText
    cases hok : pkgOk p
    · rw [hok] at hpk
      rw [if_neg (by decide)]
      exact text_none hpk
    · rw [hok] at hpk
      rw [if_pos rfl]
      have e1 : p.files.map eFile = (pF p.files).map fun q => .ag [iI q.1, iI q.2] := by unfold pF; rw [List.map_map]; rfl
      have e2 : p.deps.map eDep = (pD p.deps).map fun q => .ag [iI q.1, iI q.2] := by unfold pD; rw [List.map_map]; rfl
      rw [e1] at r2
      rw [e2] at r3
      exact text_walk hok hpk (pairs_of r2 hB) (pairs_of r3 hB)
  refine fin.mono ?_
  rintro e w' ⟨rfl, hb⟩
  exact ⟨_, g, rfl, mem_below hm hb, fun _ _ _ => rfl, .v rfl, Nat.le_refl _⟩
end Go.Proofs.YtebaiioejagfoaaGreatDoor

/- Three functions of Go's library, as S says them: where a byte is, how often it is, and the number that a few digits tell. -/
set_option linter.unusedVariables false
set_option linter.unusedSimpArgs false
namespace Go.Proofs.YtebaiioejagfoaaGreatDoor
open Go Go.Shelf Go.RowKit Go.Lib Go.Proofs
set_option maxHeartbeats 4000000
set_option maxRecDepth 100000
theorem sS_rep {w : World} {B : Nat → Prop} {g : Nat → Gh} {l : List UInt8} {v : Value} (h : RepV w B g (sS l) v) : v = .string ⟨l.toArray⟩ := by cases h; rfl
def IdxR (args : List SV) (os : List SO) (r : SV) (los : List SO) : Prop :=
  ∃ (l : List UInt8) (c : UInt8), args = [sS l, sS [c]] ∧ os = [] ∧ r = iI (Lib.indexByte l c) ∧ los = []
def CntR (args : List SV) (os : List SO) (r : SV) (los : List SO) : Prop :=
  ∃ (l : List UInt8) (c : UInt8), args = [sS l, sS [c]] ∧ os = [] ∧ r = iI (Lib.countByte l c : Nat) ∧ los = []
def AtoiR (args : List SV) (os : List SO) (r : SV) (los : List SO) : Prop :=
  ∃ (l : List UInt8) (n : Int), l.length ≤ 18 ∧ Lib.atoi l = some n ∧ args = [sS l] ∧ os = [] ∧ r = .tup [iI n, .dead] ∧ los = []
theorem idx_ok : KOK1 Tryz.prog 123 (relF IdxR) := by
  intro args los los' r h
  refine ⟨⟨_, _, Tryz.func123, by kernel_rfl, rfl⟩, ?_⟩
  obtain ⟨l, c, rfl, rfl, rfl, rfl⟩ := relF_some h
  intro A L g vals w hL hm ha
  obtain ⟨v0, vals, rfl, h0, ha⟩ := ha.uncons
  obtain ⟨v1, vals, rfl, h1, ha⟩ := ha.uncons
  obtain rfl : vals = [] := by have := ha.1; cases vals <;> simp at this ⊢
  obtain rfl := sS_rep h0
  obtain rfl := sS_rep h1
  refine (Tryz.stringslite_Index_one ⟨l.toArray⟩ c w).mono ?_
  rintro e w' ⟨rfl, rfl⟩
  exact ⟨_, g, rfl, hm, fun _ _ _ => rfl, .v rfl, Nat.le_refl _⟩
theorem cnt_ok : KOK1 Tryz.prog 121 (relF CntR) := by
  intro args los los' r h
  refine ⟨⟨_, _, Tryz.func121, by kernel_rfl, rfl⟩, ?_⟩
  obtain ⟨l, c, rfl, rfl, rfl, rfl⟩ := relF_some h
  intro A L g vals w hL hm ha
  obtain ⟨v0, vals, rfl, h0, ha⟩ := ha.uncons
  obtain ⟨v1, vals, rfl, h1, ha⟩ := ha.uncons
  obtain rfl : vals = [] := by have := ha.1; cases vals <;> simp at this ⊢
  obtain rfl := sS_rep h0
  obtain rfl := sS_rep h1
  refine (Tryz.strings_Count_one ⟨l.toArray⟩ c w).mono ?_
  rintro e w' ⟨rfl, rfl⟩
  exact ⟨_, g, rfl, hm, fun _ _ _ => rfl, .v rfl, Nat.le_refl _⟩
theorem atoi_ok : KOK1 Tryz.prog 79 (relF AtoiR) := by
  intro args los los' r h
  refine ⟨⟨_, _, Tryz.func79, by kernel_rfl, rfl⟩, ?_⟩
  obtain ⟨l, n, hl, hn, rfl, rfl, rfl, rfl⟩ := relF_some h
  intro A L g vals w hL hm ha
  obtain ⟨v0, vals, rfl, h0, ha⟩ := ha.uncons
  obtain rfl : vals = [] := by have := ha.1; cases vals <;> simp at this ⊢
  obtain rfl := sS_rep h0
  refine (Tryz.strconv_Atoi ⟨l.toArray⟩ n (by simpa [ByteArray.size] using hl) (by simpa using hn) w).mono ?_
  rintro e w' ⟨rfl, t, rfl⟩
  refine ⟨_, g, rfl, mem_below hm (Go.Joins.below_bytesWorld _ _ _ _ (Nat.le_refl _)), fun _ _ _ => rfl, ?_, Nat.le_refl _⟩
  exact .tup (vs := [.int .i64 n, .nilIface]) rfl fun i x v h1 h2 => by
    match i with
    | 0 => cases h1; cases h2; exact .v rfl
    | 1 => cases h1; cases h2; exact .dead
    | i + 2 => cases h1
end Go.Proofs.YtebaiioejagfoaaGreatDoor

/- A second program of S: the functions of the laws that handle arrays of packages, on top of what all others answer. -/
namespace Go.Proofs.YtebaiioejagfoaaGreatDoor
open Go
set_option linter.unusedVariables false
set_option linter.unusedSimpArgs false
set_option maxHeartbeats 4000000
set_option maxRecDepth 100000
noncomputable def limF (f : Nat) : List SV → List SO → Out := relF fun args os r los => Ex (fun n => callF prg n f args os) r los
theorem ex_one {A : Nat → Out} {x y : SV} {os ps : List SO} (h : Ex A x os) (h' : Ex A y ps) : x = y ∧ os = ps := by
  obtain ⟨n, h⟩ := h
  obtain ⟨m, h'⟩ := h'
  have := (h (n + m) (by omega)).symm.trans (h' (n + m) (by omega))
  cases this
  exact ⟨rfl, rfl⟩
theorem lim_ex {f : Nat} {args : List SV} {os los : List SO} {r : SV} (h : Ex (fun n => callF prg n f args os) r los) : limF f args os = some (r, los) := by
  obtain ⟨r', los', h1, h2⟩ := relF_of (R := fun args os r los => Ex (fun n => callF prg n f args os) r los) h
  obtain ⟨rfl, rfl⟩ := ex_one h h2
  exact h1
theorem lim_ok (f : Nat) : KOK1 Tryz.prog f (limF f) := by
  intro args los los' r h
  obtain ⟨n0, h0⟩ : Ex (fun n => callF prg n f args los) r los' := relF_some h
  exact callF_ok prgR n0 f args los los' r (h0 n0 (Nat.le_refl _))
def open2 (f : Nat) : Bool := Nat.beq f 5 || Nat.beq f 4 || Nat.beq f 3 || Nat.beq f 8 || Nat.beq f 35 || Nat.beq f 10 || Nat.beq f 37 || Nat.beq f 19 || Nat.beq f 58 || Nat.beq f 57 || Nat.beq f 94 || Nat.beq f 76 || Nat.beq f 105 || Nat.beq f 78 || Nat.beq f 106 || Nat.beq f 122 || Nat.beq f 77
noncomputable def prim2 (f : Nat) : Option (List SV → List SO → Out) :=
  match open2 f with
  | true => none
  | false =>
    match Nat.beq f 18 with
    | true => some (relF ToR)
    | false =>
      match Nat.beq f 24 with
      | true => some (relF MarkR)
      | false => (match Nat.beq f 11 with | true => some (relF TextR) | false => (match Nat.beq f 123 with | true => some (relF IdxR) | false => (match Nat.beq f 121 with | true => some (relF CntR) | false => (match Nat.beq f 79 with | true => some (relF AtoiR) | false => some (limF f)))))
noncomputable def prg2 : Prg := { T := tab, own := ownF, pur := purF, code := fun f => (codeL[f]?).getD none, fi := fun f => (fiL[f]?).getD ⟨0, fun _ => ⟨false, []⟩, fun _ => none, fun _ => none⟩, prim := prim2 }
theorem prgR2 : PrgOK Tryz.prog prg2 where
  tab := tabR
  code := prgR.code
  prim := fun f q h => by
    have h' : prim2 f = some q := h
    unfold prim2 at h'
    split at h'
    · cases h'
    · split at h'
      · rename_i e; cases h'; rw [Nat.eq_of_beq_eq_true e]; exact to_ok
      · split at h'
        · rename_i e; cases h'; rw [Nat.eq_of_beq_eq_true e]; exact mark_ok
        · split at h'
          · rename_i e; cases h'; rw [Nat.eq_of_beq_eq_true e]; exact text_ok
          · split at h'
            · rename_i e; cases h'; rw [Nat.eq_of_beq_eq_true e]; exact idx_ok
            · split at h'
              · rename_i e; cases h'; rw [Nat.eq_of_beq_eq_true e]; exact cnt_ok
              · split at h'
                · rename_i e; cases h'; rw [Nat.eq_of_beq_eq_true e]; exact atoi_ok
                · cases h'; exact lim_ok f
  mix := prgR.mix
def shut2 (f : Nat) : Bool := !open2 f && !Nat.beq f 18 && !Nat.beq f 24 && !Nat.beq f 11 && !Nat.beq f 123 && !Nat.beq f 121 && !Nat.beq f 79
theorem prim_call {f : Nat} {q : List SV → List SO → Out} (h : prim2 f = some q) (n : Nat) (args : List SV) (os : List SO) : callF prg2 (n + 1) f args os = q args os := by
  have h' : prg2.prim f = some q := h
  simp only [callF, h']
theorem ex_prim {f : Nat} {q : List SV → List SO → Out} (h : prim2 f = some q) {args : List SV} {os los : List SO} {r : SV} (hq : q args os = some (r, los)) : Ex (fun n => callF prg2 n f args os) r los := ⟨1, fun n hn => by
  obtain ⟨m, rfl⟩ : ∃ m, n = m + 1 := ⟨n - 1, by omega⟩
  exact (prim_call h m args os).trans hq⟩
theorem lift {f : Nat} {args : List SV} {os los : List SO} {r : SV} (h : Ex (fun n => callF prg n f args os) r los) (hf : shut2 f = true) : Ex (fun n => callF prg2 n f args os) r los := by
  refine ex_prim (q := limF f) ?_ (lim_ex h)
  unfold shut2 at hf
  simp only [Bool.and_eq_true, Bool.not_eq_true'] at hf
  obtain ⟨⟨⟨⟨⟨⟨h1, h2⟩, h3⟩, h4⟩, h5⟩, h6⟩, h7⟩ := hf
  unfold prim2
  rw [h1, h2, h3, h4, h5, h6, h7]
theorem eFile_inj {a b : TFile} (h : eFile a = eFile b) : a = b := by cases a; cases b; simp at h; simp [h]
theorem eDep_inj {a b : TDep} (h : eDep a = eDep b) : a = b := by cases a; cases b; simp at h; simp [h]
theorem map_inj' {α : Type} {f : α → SV} (hf : ∀ a b, f a = f b → a = b) : ∀ {l l' : List α}, l.map f = l'.map f → l = l'
  | [], [], _ => rfl
  | [], _ :: _, h => by cases h
  | _ :: _, [], h => by cases h
  | a :: l, b :: l', h => by
    simp only [List.map_cons, List.cons.injEq] at h
    rw [hf _ _ h.1, map_inj' hf h.2]
theorem ePkg_inj {a b : TPkg} (h : ePkg a = ePkg b) : a = b := by
  cases a; cases b
  simp only [ePkg, SV.ag.injEq, List.cons.injEq, SV.v.injEq, Value.int.injEq, SV.sl.injEq, and_true, true_and] at h
  obtain ⟨h1, h2, h3, h4⟩ := h
  rw [h1, h2, map_inj' (fun _ _ => eFile_inj) h3, map_inj' (fun _ _ => eDep_inj) h4]
theorem s_PkgTextN (p : TPkg) (h1 : p.files.length ≤ 2000000) (h2 : p.deps.length ≤ 2000000) : Ex (fun n => callF prg2 n 11 [ePkg p] []) (sS (pkgText p)) [] := by
  obtain ⟨r, los, h3, p', -, -, e1, -, rfl, rfl⟩ := relF_of (R := TextR) ⟨p, h1, h2, rfl, rfl, rfl, rfl⟩
  obtain rfl : p = p' := ePkg_inj (by injection e1)
  exact ex_prim (q := relF TextR) rfl h3
theorem ev_true2 {k : Nat} {args : List SV} (h : Ev (fun n => callF prg2 n k args []) fun x _ => x = .v (.bool true)) : ∃ n los, callF prg2 n k args [] = some (.v (.bool true), los) := by
  obtain ⟨x, os, rfl, n0, h0⟩ := h
  exact ⟨n0, os, h0 n0 (Nat.le_refl _)⟩
end Go.Proofs.YtebaiioejagfoaaGreatDoor

/- Rules of step over texts: parts of them, the like. -/
namespace Go.Proofs.YtebaiioejagfoaaGreatDoor
open Go
set_option linter.unusedVariables false
set_option linter.unusedSimpArgs false
theorem extract_bytes (l : List UInt8) (a b : Nat) : (ByteArray.mk l.toArray).extract a b = ⟨((l.drop a).take (b - a)).toArray⟩ := by
  apply ByteArray.ext
  simp [ByteArray.data_extract]
theorem ev_strh {T : Tab} {os : List SO} {t : Nat} {l : List UInt8} {h : Int} {F : Nat → SV → List SO → Out} {Q} (hu : T.und t = some .str) (h0 : 0 ≤ h ∧ h ≤ (l.length : Int)) (h2 : Ev (fun n => F n (sS (l.take h.toNat)) os) Q) :
    Ev (fun n => bd (ret1 (sliceS T os t (.v (.string ⟨l.toArray⟩)) none (some (.v (.int .i64 h)))) os) (F n)) Q := by
  refine ev_bdx (x := sS (l.take h.toNat)) (os := os) ?_ h2
  simp [sliceS, hu, boundS, h0.1, h0.2, ret1, extract_bytes, ByteArray.size]
theorem ev_strl {T : Tab} {os : List SO} {t : Nat} {l : List UInt8} {h : Int} {F : Nat → SV → List SO → Out} {Q} (hu : T.und t = some .str) (h0 : 0 ≤ h ∧ h ≤ (l.length : Int)) (h2 : Ev (fun n => F n (sS (l.drop h.toNat)) os) Q) :
    Ev (fun n => bd (ret1 (sliceS T os t (.v (.string ⟨l.toArray⟩)) (some (.v (.int .i64 h))) none) os) (F n)) Q := by
  refine ev_bdx (x := sS (l.drop h.toNat)) (os := os) ?_ h2
  have e : (l.drop h.toNat).take (l.length - h.toNat) = l.drop h.toNat := List.take_of_length_le (by rw [List.length_drop]; exact Nat.le_refl _)
  simp [sliceS, hu, boundS, h0.1, h0.2, ret1, extract_bytes, ByteArray.size, e]
theorem beq_dec (a b : List UInt8) : (a == b) = decide (a = b) := by by_cases h : a = b <;> simp [h]
theorem ev_seql {T : Tab} {t : Nat} {a b : List UInt8} {os : List SO} {F : Nat → SV → List SO → Out} {Q} (h2 : Ev (fun n => F n (bB (decide (a = b))) os) Q) :
    Ev (fun n => bd (ret1 (binS T .eql t (.v (.string ⟨a.toArray⟩)) (.v (.string ⟨b.toArray⟩))) os) (F n)) Q := by
  refine ev_bdx (x := bB (decide (a = b))) (os := os) ?_ h2
  simp [binS, strBin, ret1, Lib.toList_data, beq_dec]
theorem ev_sneq {T : Tab} {t : Nat} {a b : List UInt8} {os : List SO} {F : Nat → SV → List SO → Out} {Q} (h2 : Ev (fun n => F n (bB (!decide (a = b))) os) Q) :
    Ev (fun n => bd (ret1 (binS T .neq t (.v (.string ⟨a.toArray⟩)) (.v (.string ⟨b.toArray⟩))) os) (F n)) Q := by
  refine ev_bdx (x := bB (!decide (a = b))) (os := os) ?_ h2
  simp [binS, strBin, ret1, Lib.toList_data, beq_dec]
theorem ev_slen1 {T : Tab} {t : Nat} {c : UInt8} {os : List SO} {F : Nat → SV → List SO → Out} {Q} (hu : T.und t = some .str) (h2 : Ev (fun n => F n (iI 1) os) Q) : Ev (fun n => bd (lenO T t os (.v (.string ⟨[c].toArray⟩))) (F n)) Q := by
  refine ev_bdx (x := iI 1) (os := os) ?_ h2
  simp [lenO, lenS, hu, ByteArray.size]
theorem ev_min {a b : Int} {os : List SO} {F : Nat → SV → List SO → Out} {Q} (h : a ≤ b) (h2 : Ev (fun n => F n (iI a) os) Q) : Ev (fun n => bd (ret1 (minS (.v (.int .i64 a)) (.v (.int .i64 b))) os) (F n)) Q := by
  refine ev_bdx (x := iI a) (os := os) ?_ h2
  simp [minS, ret1, show ¬ b < a by omega]
theorem retP_vw {T : Tab} {sz : Nat} {l : List SV} {h : Nat} (h1 : h ≤ l.length) : retP T [0] 0 [.arr false 1 [], .arr false sz l] (resC1 (some (.vw 1 0 h)) (some [])) = some (.sl sz (l.take h), []) := by
  have e : purVs [0] 0 [.vw 1 0 h] [.arr false 1 [], .arr false sz l] = some ([.sl sz (l.take h)], [.arr false 1 [], .frz sz l]) := by
    simp [purVs, pureCell, h1]
  show (match purVs [0] 0 [.vw 1 0 h] [.arr false 1 [], .arr false sz l] with
    | some (ys, os1) =>
      match (match [0].contains 99999 with | true => purBox [0] os1 | false => some os1) with
      | some os2 => retV T 0 os2 (some ys)
      | none => none
    | none => none) = _
  rw [e]
  rfl
end Go.Proofs.YtebaiioejagfoaaGreatDoor

/- Texts cut at a byte, and small numbers read, in the second program. -/
namespace Go.Proofs.YtebaiioejagfoaaGreatDoor
open Go
set_option linter.unusedVariables false
set_option linter.unusedSimpArgs false
set_option maxHeartbeats 4000000
set_option maxRecDepth 100000
theorem ix_no {c : UInt8} : ∀ {a : List UInt8}, c ∉ a → Lib.indexByte a c = -1
  | [], _ => rfl
  | b :: a, h => by
    have h1 : b ≠ c := fun e => h (by simp [e])
    have h2 : c ∉ a := fun e => h (by simp [e])
    unfold Lib.indexByte
    rw [ix_no h2]
    simp [h1]
theorem ix_at {c : UInt8} {b : List UInt8} : ∀ {a : List UInt8}, c ∉ a → Lib.indexByte (a ++ c :: b) c = a.length
  | [], _ => by simp [Lib.indexByte]
  | x :: a, h => by
    have h1 : x ≠ c := fun e => h (by simp [e])
    have h2 : c ∉ a := fun e => h (by simp [e])
    rw [List.cons_append]
    unfold Lib.indexByte
    rw [ix_at h2]
    have : ¬ ((a.length : Int) = -1) := by omega
    simp [h1, this]
def joinW (w : List UInt8) (ws : List (List UInt8)) : List UInt8 := w ++ ws.flatMap fun v => 32 :: v
theorem joinW_cons (w v : List UInt8) (ws : List (List UInt8)) : joinW w (v :: ws) = w ++ 32 :: joinW v ws := by simp [joinW]
theorem cnt_join : ∀ (ws : List (List UInt8)) (w : List UInt8), 32 ∉ w → (∀ v ∈ ws, 32 ∉ v) → Lib.countByte (joinW w ws) 32 = ws.length
  | [], w, h, _ => by simp [joinW, Lib.countByte, List.count_eq_zero.2 h]
  | v :: ws, w, h, h2 => by
    have := cnt_join ws v (h2 v (by simp)) (fun x hx => h2 x (by simp [hx]))
    rw [joinW_cons]
    unfold Lib.countByte at this ⊢
    rw [List.count_append, List.count_eq_zero.2 h, List.count_cons, this]
    simp
theorem sS_inj {a b : List UInt8} (h : sS a = sS b) : a = b := by simpa using h
theorem s_sIx (l : List UInt8) (c : UInt8) : Ex (fun n => callF prg2 n 123 [sS l, sS [c]] []) (iI (Lib.indexByte l c)) [] := by
  obtain ⟨r, los, h3, l', c', e1, -, rfl, rfl⟩ := relF_of (R := IdxR) ⟨l, c, rfl, rfl, rfl, rfl⟩
  obtain ⟨rfl, rfl⟩ : l = l' ∧ c = c' := by simpa using e1
  exact ex_prim (q := relF IdxR) rfl h3
theorem s_Cnt (l : List UInt8) (c : UInt8) : Ex (fun n => callF prg2 n 121 [sS l, sS [c]] []) (iI (Lib.countByte l c : Nat)) [] := by
  obtain ⟨r, los, h3, l', c', e1, -, rfl, rfl⟩ := relF_of (R := CntR) ⟨l, c, rfl, rfl, rfl, rfl⟩
  obtain ⟨rfl, rfl⟩ : l = l' ∧ c = c' := by simpa using e1
  exact ex_prim (q := relF CntR) rfl h3
theorem s_Atoi (l : List UInt8) (n : Int) (hl : l.length ≤ 18) (hn : Lib.atoi l = some n) : Ex (fun m => callF prg2 m 79 [sS l] []) (.tup [iI n, .dead]) [] := by
  obtain ⟨r, los, h3, l', n', -, h4, e1, -, rfl, rfl⟩ := relF_of (R := AtoiR) ⟨l, n, hl, hn, rfl, rfl, rfl, rfl⟩
  obtain rfl : l = l' := by simpa using e1
  obtain rfl : n = n' := Option.some.inj (hn.symm.trans h4)
  exact ex_prim (q := relF AtoiR) rfl h3
theorem PE122 (n : Nat) (x0 x1 : SV) (os : List SO) : callF prg2 (n + 1) 122 [x0, x1] os = X122 (callF prg2 n) (n + 1) os.length x0 x1 os := by kernel_rfl
theorem PU122 {Q : SV → List SO → Prop} {x0 x1 : SV} {os : List SO} {nl : Nat} (hnl : os.length = nl) (h : Ev (fun n => B122 (callF prg2 n) (n + 1) nl x0 x1 os) Q) : Ev (fun n => callF prg2 n 122 [x0, x1] os) Q := by subst hnl; exact ev_fun (fun n => (PE122 n _ _ _).trans (X122_s _ _ _ _ _ _)) h
theorem PE106 (n : Nat) (x0 x1 : SV) (os : List SO) : callF prg2 (n + 1) 106 [x0, x1] os = X106 (callF prg2 n) (n + 1) os.length x0 x1 os := by kernel_rfl
theorem PU106 {Q : SV → List SO → Prop} {x0 x1 : SV} {os : List SO} {nl : Nat} (hnl : os.length = nl) (h : Ev (fun n => B106 (callF prg2 n) (n + 1) nl x0 x1 os) Q) : Ev (fun n => callF prg2 n 106 [x0, x1] os) Q := by subst hnl; exact ev_fun (fun n => (PE106 n _ _ _).trans (X106_s _ _ _ _ _ _)) h
theorem PE78 (n : Nat) (x0 x1 : SV) (os : List SO) : callF prg2 (n + 1) 78 [x0, x1] os = X78 (callF prg2 n) (n + 1) os.length x0 x1 os := by kernel_rfl
theorem PU78 {Q : SV → List SO → Prop} {x0 x1 : SV} {os : List SO} {nl : Nat} (hnl : os.length = nl) (h : Ev (fun n => B78 (callF prg2 n) (n + 1) nl x0 x1 os) Q) : Ev (fun n => callF prg2 n 78 [x0, x1] os) Q := by subst hnl; exact ev_fun (fun n => (PE78 n _ _ _).trans (X78_s _ _ _ _ _ _)) h
theorem PE105 (n : Nat) (x0 x1 x2 x3 : SV) (os : List SO) : callF prg2 (n + 1) 105 [x0, x1, x2, x3] os = X105 (callF prg2 n) (n + 1) os.length x0 x1 x2 x3 os := by kernel_rfl
theorem PUJ105_7 {nl : Nat} {Q : SV → List SO → Prop} {x0 x1 x2 x3 : SV} {os : List SO} (h : Ev (fun n => JB105_7 (callF prg2 n) (n + 1) nl x0 x1 x2 x3 os) Q) : Ev (fun n => J105_7 (callF prg2 n) (n + 1) nl x0 x1 x2 x3 os) Q := ev_eq (fun n => J105_7_s _ _ _ _ _ _ _ _) h
theorem PUL105_11 {nl c : Nat} {Q : SV → List SO → Prop} {x0 x1 x2 x3 x9 x10 : SV} {os : List SO} (h : Ev (fun n => LB105_11 (callF prg2 n) (n + 1) nl (n + 1 - (c + 1)) x0 x1 x2 x3 x9 x10 os) Q) : Ev (fun n => L105_11 (callF prg2 n) (n + 1) nl (n + 1 - c) x0 x1 x2 x3 x9 x10 os) Q := ev_loop (L := fun n m => L105_11 (callF prg2 n) (n + 1) nl m x0 x1 x2 x3 x9 x10 os) (fun n m => L105_11_s _ _ _ _ _ _ _ _ _ _ _) h
theorem PUJ105_17 {nl : Nat} {Q : SV → List SO → Prop} {x0 x9 x10 : SV} {os : List SO} (h : Ev (fun n => JB105_17 (callF prg2 n) (n + 1) nl x0 x9 x10 os) Q) : Ev (fun n => J105_17 (callF prg2 n) (n + 1) nl x0 x9 x10 os) Q := ev_eq (fun n => J105_17_s _ _ _ _ _ _ _) h
theorem PU105 {Q : SV → List SO → Prop} {x0 x1 x2 x3 : SV} {os : List SO} {nl : Nat} (hnl : os.length = nl) (h : Ev (fun n => B105 (callF prg2 n) (n + 1) nl x0 x1 x2 x3 os) Q) : Ev (fun n => callF prg2 n 105 [x0, x1, x2, x3] os) Q := by subst hnl; exact ev_fun (fun n => (PE105 n _ _ _ _ _).trans (X105_s _ _ _ _ _ _ _ _)) h
theorem PVL105_11 {nl : Nat} {Q : SV → List SO → Prop} {x0 x1 x2 x3 x9 x10 : SV} {os : List SO} (h : Ev (fun n => LB105_11 (callF prg2 n) (n + 1) nl (n + 1 - 1) x0 x1 x2 x3 x9 x10 os) Q) : Ev (fun n => L105_11 (callF prg2 n) (n + 1) nl (n + 1) x0 x1 x2 x3 x9 x10 os) Q := PUL105_11 (c := 0) h
theorem PE76 (n : Nat) (x0 x1 : SV) (os : List SO) : callF prg2 (n + 1) 76 [x0, x1] os = X76 (callF prg2 n) (n + 1) os.length x0 x1 os := by kernel_rfl
theorem PU76 {Q : SV → List SO → Prop} {x0 x1 : SV} {os : List SO} {nl : Nat} (hnl : os.length = nl) (h : Ev (fun n => B76 (callF prg2 n) (n + 1) nl x0 x1 os) Q) : Ev (fun n => callF prg2 n 76 [x0, x1] os) Q := by subst hnl; exact ev_fun (fun n => (PE76 n _ _ _).trans (X76_s _ _ _ _ _ _)) h
theorem PE77 (n : Nat) (x0 : SV) (os : List SO) : callF prg2 (n + 1) 77 [x0] os = X77 (callF prg2 n) (n + 1) os.length x0 os := by kernel_rfl
theorem PU77 {Q : SV → List SO → Prop} {x0 : SV} {os : List SO} {nl : Nat} (hnl : os.length = nl) (h : Ev (fun n => B77 (callF prg2 n) (n + 1) nl x0 os) Q) : Ev (fun n => callF prg2 n 77 [x0] os) Q := by subst hnl; exact ev_fun (fun n => (PE77 n _ _).trans (X77_s _ _ _ _ _)) h
theorem s_Ix (l : List UInt8) (c : UInt8) : Ex (fun n => callF prg2 n 122 [sS l, sS [c]] []) (iI (Lib.indexByte l c)) [] := by
  refine ev_is.1 ?_
  (refine PU122 (nl := 0) rfl ?_; unfold B122)
  repeat' (first | ((with_reducible refine eC ?_); first | ((refine ev_call (s_sIx l c) rfl rfl ?_ rfl ?_); (focus first | exact .inl rfl | exact .inr rfl | (refine .inr ?_; simp [flagC, ownF, hasSl3, hasSl1, SO.hasSl, List.all_map, flatSV, SV.cells, Function.comp_def]; done)))) | ((with_reducible refine eD ?_); first | refine ev_bd rfl ?_ | refine ev_bd0 rfl ?_) | refine ev_ret rfl ?_)
  all_goals exact ⟨rfl, rfl⟩
theorem s_cutIn0 (a b : List UInt8) (c : UInt8) (h : c ∉ a) (hl : a.length + b.length ≤ 1000) : Ex (fun n => callF prg2 n 106 [sS (a ++ c :: b), sS [c]] []) (.tup [sS a, sS b, bB true]) [] := by
  refine ev_is.1 ?_
  have e1 : (a ++ c :: b).take (a.length : Int).toNat = a := by simp
  have e2 : (a ++ c :: b).drop ((a.length : Int) + 1).toNat = b := by
    rw [show ((a.length : Int) + 1).toNat = a.length + 1 by omega, List.drop_append]
    simp
  (refine PU106 (nl := 0) rfl ?_; unfold B106)
  repeat' (first | ( with_reducible refine ev_slen1 rfl ?_) | ((with_reducible refine eB ?_); first | ((with_reducible refine ev_geq ?_ ?_) <;> intro h <;> try (exfalso; omega)) | ((with_reducible refine ev_add ?_ ?_); · omega) | refine ev_bd rfl ?_ | refine ev_bd0 rfl ?_) | ((with_reducible refine eL ?_); first | ((with_reducible refine ev_lenm ?_ ?_); · rfl) | refine ev_lenom rfl rfl ?_ | refine ev_lenfm rfl rfl ?_ | refine ev_lenoc rfl rfl rfl ?_ | refine ev_lenc rfl rfl ?_ | refine ev_leno rfl rfl ?_ | refine ev_slen rfl ?_ | refine ev_bd rfl ?_ | refine ev_bd0 rfl ?_) | ((with_reducible refine eS ?_); first | ((with_reducible first | refine ev_slh ?_ ?_ ?_ | refine ev_sll ?_ ?_ ?_); (· rfl); · omega) | ((first | refine ev_slvh rfl rfl ?_ ?_ | refine ev_slvl rfl rfl ?_ ?_); (· first | omega | (simp only [List.length_cons, List.length_nil, List.length_map, List.length_append]; omega))) | refine ev_bd rfl ?_ | refine ev_bd0 rfl ?_) | ((with_reducible refine eC ?_); first | ((refine ev_call ((ix_at (b := b) h ▸ s_sIx (a ++ c :: b) c)) rfl rfl ?_ rfl ?_); (focus first | exact .inl rfl | exact .inr rfl | (refine .inr ?_; simp [flagC, ownF, hasSl3, hasSl1, SO.hasSl, List.all_map, flatSV, SV.cells, Function.comp_def]; done)))) | ((with_reducible refine eK ?_); first | (with_reducible first | refine ev_ct ?_ | refine ev_cf ?_) | ((with_reducible refine ev_cond ?_ ?_) <;> intro h)) | ((with_reducible refine eD ?_); first | refine ev_bd rfl ?_ | refine ev_bd0 rfl ?_ | ( (refine ev_strh rfl ?_ ?_; (focus (simp only [List.length_append, List.length_cons]; omega)))) | ( (refine ev_strl rfl ?_ ?_; (focus (simp only [List.length_append, List.length_cons]; omega))))) | refine ev_ret rfl ?_)
  all_goals first
    | exact ⟨by rw [e1, e2], rfl⟩
    | trace_state
theorem s_cutIn (a b : List UInt8) (c : UInt8) (h : c ∉ a) (hl : a.length + b.length ≤ 1000) : Ex (fun n => callF prg2 n 78 [sS (a ++ c :: b), sS [c]] []) (.tup [sS a, sS b, bB true]) [] := by
  refine ev_is.1 ?_
  (refine PU78 (nl := 0) rfl ?_; unfold B78)
  repeat' (first | ((with_reducible refine eC ?_); first | ((refine ev_call (s_cutIn0 a b c h hl) rfl rfl ?_ rfl ?_); (focus first | exact .inl rfl | exact .inr rfl | (refine .inr ?_; simp [flagC, ownF, hasSl3, hasSl1, SO.hasSl, List.all_map, flatSV, SV.cells, Function.comp_def]; done)))) | ((with_reducible refine eD ?_); first | refine ev_bd rfl ?_ | refine ev_bd0 rfl ?_) | refine ev_ret rfl ?_)
  all_goals exact ⟨rfl, rfl⟩
theorem s_cutOut0 (a : List UInt8) (c : UInt8) (h : c ∉ a) : Ex (fun n => callF prg2 n 106 [sS a, sS [c]] []) (.tup [sS a, sS [], bB false]) [] := by
  refine ev_is.1 ?_
  (refine PU106 (nl := 0) rfl ?_; unfold B106)
  repeat' (first | ((with_reducible refine eB ?_); first | ((with_reducible refine ev_geq ?_ ?_) <;> intro h <;> try (exfalso; omega)) | ((with_reducible refine ev_add ?_ ?_); · omega) | refine ev_bd rfl ?_ | refine ev_bd0 rfl ?_) | ((with_reducible refine eL ?_); first | ((with_reducible refine ev_lenm ?_ ?_); · rfl) | refine ev_lenom rfl rfl ?_ | refine ev_lenfm rfl rfl ?_ | refine ev_lenoc rfl rfl rfl ?_ | refine ev_lenc rfl rfl ?_ | refine ev_leno rfl rfl ?_ | refine ev_slen rfl ?_ | refine ev_bd rfl ?_ | refine ev_bd0 rfl ?_) | ((with_reducible refine eS ?_); first | ((with_reducible first | refine ev_slh ?_ ?_ ?_ | refine ev_sll ?_ ?_ ?_); (· rfl); · omega) | ((first | refine ev_slvh rfl rfl ?_ ?_ | refine ev_slvl rfl rfl ?_ ?_); (· first | omega | (simp only [List.length_cons, List.length_nil, List.length_map, List.length_append]; omega))) | refine ev_bd rfl ?_ | refine ev_bd0 rfl ?_) | ((with_reducible refine eC ?_); first | ((refine ev_call ((ix_no h ▸ s_sIx a c)) rfl rfl ?_ rfl ?_); (focus first | exact .inl rfl | exact .inr rfl | (refine .inr ?_; simp [flagC, ownF, hasSl3, hasSl1, SO.hasSl, List.all_map, flatSV, SV.cells, Function.comp_def]; done)))) | ((with_reducible refine eK ?_); first | (with_reducible first | refine ev_ct ?_ | refine ev_cf ?_) | ((with_reducible refine ev_cond ?_ ?_) <;> intro h)) | ((with_reducible refine eD ?_); first | refine ev_bd rfl ?_ | refine ev_bd0 rfl ?_) | refine ev_ret rfl ?_)
  all_goals first
    | exact ⟨rfl, rfl⟩
    | trace_state
theorem s_cutOut (a : List UInt8) (c : UInt8) (h : c ∉ a) : Ex (fun n => callF prg2 n 78 [sS a, sS [c]] []) (.tup [sS a, sS [], bB false]) [] := by
  refine ev_is.1 ?_
  (refine PU78 (nl := 0) rfl ?_; unfold B78)
  repeat' (first | ((with_reducible refine eC ?_); first | ((refine ev_call (s_cutOut0 a c h) rfl rfl ?_ rfl ?_); (focus first | exact .inl rfl | exact .inr rfl | (refine .inr ?_; simp [flagC, ownF, hasSl3, hasSl1, SO.hasSl, List.all_map, flatSV, SV.cells, Function.comp_def]; done)))) | ((with_reducible refine eD ?_); first | refine ev_bd rfl ?_ | refine ev_bd0 rfl ?_) | refine ev_ret rfl ?_)
  all_goals exact ⟨rfl, rfl⟩
theorem s_genSplit_L (ws : List (List UInt8)) (hw : ∀ v ∈ ws, 32 ∉ v) (hl : ws.length ≤ 1000) (hl2 : ∀ v ∈ ws, v.length ≤ 1000) (h0 : 0 < ws.length) : ∀ i, i ≤ ws.length - 1 → ∀ (t : List UInt8) (arr : List (List UInt8)) (k : Int) (c : Nat), k = i → t = joinW (nth ws i) (ws.drop (i + 1)) → arr.length = ws.length → (∀ j, j < i → nth arr j = nth ws j) →
    Ev (fun n => L105_11 (callF prg2 n) (n + 1) 0 (n + 1 - c) (sS t) (sS [32]) (iI 0) (iI (ws.length - 1)) (.osl 1) (iI k) [.arr false 1 [], .arr false 1 (arr.map sS)]) (Is (.sl 1 (ws.map sS)) []) := by
  refine up_ind ?_
  intro i hi ih t arr k c hk ht ha hp
  subst hk
  by_cases hi2 : i < ws.length - 1
  · have hd : ws.drop (i + 1) = nth ws (i + 1) :: ws.drop (i + 1 + 1) := by
      rw [← List.getElem_cons_drop (h := by omega)]
      congr 1
      have := get_nth (l := ws) (i := i + 1) (by omega)
      rw [List.getElem?_eq_getElem (by omega)] at this
      exact Option.some.inj this
    have hno := hw _ (nth_mem (l := ws) (k := i) (by omega))
    have et : t = nth ws i ++ 32 :: joinW (nth ws (i + 1)) (ws.drop (i + 1 + 1)) := by rw [ht, hd, joinW_cons]
    have hx : Ex (fun n => callF prg2 n 122 [sS t, sS [32]] []) (iI (nth ws i).length) [] := by
      have := s_Ix t 32
      rw [et, ix_at hno] at this
      rw [et]; exact this
    have hl3 := hl2 _ (nth_mem (l := ws) (k := i) (by omega))
    have e1 : t.take ((nth ws i).length : Int).toNat = nth ws i := by rw [et]; simp
    have e2 : t.drop ((nth ws i).length + 1 : Int).toNat = joinW (nth ws (i + 1)) (ws.drop (i + 1 + 1)) := by
      rw [et, show ((nth ws i).length + 1 : Int).toNat = (nth ws i).length + 1 by omega, List.drop_append]
      simp
    have e3 : (nth ws i).length + 1 ≤ t.length := by rw [et]; simp
    (refine PUL105_11 ?_; unfold LB105_11)
    repeat' (first | ( with_reducible refine ev_slen1 rfl ?_) | ((with_reducible refine eB ?_); first | ((with_reducible refine ev_lss ?_ ?_) <;> intro h <;> try (exfalso; omega)) | ((with_reducible refine ev_add ?_ ?_); · omega) | refine ev_bd rfl ?_ | refine ev_bd0 rfl ?_) | ((with_reducible refine eL ?_); first | ((with_reducible refine ev_lenm ?_ ?_); · rfl) | refine ev_lenom rfl rfl ?_ | refine ev_lenfm rfl rfl ?_ | refine ev_lenoc rfl rfl rfl ?_ | refine ev_lenc rfl rfl ?_ | refine ev_leno rfl rfl ?_ | refine ev_slen rfl ?_ | refine ev_bd rfl ?_ | refine ev_bd0 rfl ?_) | ((with_reducible refine eI ?_); first | ((with_reducible refine ev_idxn ?_ ?_ ?_); (· rfl); · omega) | (refine ev_idxon rfl rfl ?_ ?_; (· first | omega | (simp only [List.length_cons, List.length_nil, List.length_map, List.length_append]; omega))) | (refine ev_idxfn rfl rfl ?_ ?_; (focus omega)) | ((with_reducible refine ev_idx ?_ ?_ ?_); (· rfl); · omega) | (refine ev_idxo rfl rfl ?_ ?_; (· first | omega | (simp only [List.length_cons, List.length_nil, List.length_map, List.length_append]; omega))) | (refine ev_idxf rfl rfl ?_ ?_; (focus omega)) | refine ev_bd rfl ?_ | refine ev_bd0 rfl ?_) | ((with_reducible refine eS ?_); first | ((with_reducible first | refine ev_slh ?_ ?_ ?_ | refine ev_sll ?_ ?_ ?_); (· rfl); · omega) | ((first | refine ev_slvh rfl rfl ?_ ?_ | refine ev_slvl rfl rfl ?_ ?_); (· first | omega | (simp only [List.length_cons, List.length_nil, List.length_map, List.length_append]; omega))) | refine ev_bd rfl ?_ | refine ev_bd0 rfl ?_) | ((with_reducible refine eC ?_); first | ((refine ev_call (hx ..) rfl rfl ?_ rfl ?_); (focus first | exact .inl rfl | exact .inr rfl | (refine .inr ?_; simp [flagC, ownF, hasSl3, hasSl1, SO.hasSl, List.all_map, flatSV, SV.cells, Function.comp_def]; done)))) | ((with_reducible refine eK ?_); first | (with_reducible first | refine ev_ct ?_ | refine ev_cf ?_) | ((with_reducible refine ev_cond ?_ ?_) <;> intro h)) | ((with_reducible refine eD ?_); first | refine ev_bd rfl ?_ | refine ev_bd0 rfl ?_ | ( (refine ev_strh rfl ?_ ?_; (focus omega))) | ( (refine ev_strl rfl ?_ ?_; (focus omega))) | ( (refine ev_sto (f := sS) (a := nth ws i) rfl rfl rfl rfl rfl rfl rfl (by rw [show t.take (((nth ws i).length : Int) + 0).toNat = nth ws i by rw [Int.add_zero, e1]]; rfl) ?_ rfl ?_; (focus omega)))) | ((with_reducible refine ih ?_ _ _ _ _ ?_ ?_ ?_ ?_) <;> (first | omega | assumption | ((first | (rw [List.length_set]; exact ha) | (intro j hj; rw [nth_set']; split; (rename_i e; rw [e.1]); (rename_i e; exact hp j (by omega))))) | (simp only [*, List.map_append, List.length_append, List.length_cons, List.length_nil, List.map_cons, List.map_nil]; done) | (simp_all; done) | (simp_all; omega))) | refine ev_ret rfl ?_)
  · obtain rfl : t = nth ws i := by rw [ht, List.drop_eq_nil_of_le (by omega)]; simp [joinW]
    (refine PUL105_11 ?_; unfold LB105_11)
    repeat' (first | ((with_reducible refine eB ?_); first | ((with_reducible refine ev_lss ?_ ?_) <;> intro h <;> try (exfalso; omega)) | ((with_reducible refine ev_add ?_ ?_); · omega) | refine ev_bd rfl ?_ | refine ev_bd0 rfl ?_) | ((with_reducible refine eL ?_); first | ((with_reducible refine ev_lenm ?_ ?_); · rfl) | refine ev_lenom rfl rfl ?_ | refine ev_lenfm rfl rfl ?_ | refine ev_lenoc rfl rfl rfl ?_ | refine ev_lenc rfl rfl ?_ | refine ev_leno rfl rfl ?_ | refine ev_slen rfl ?_ | refine ev_bd rfl ?_ | refine ev_bd0 rfl ?_) | ((with_reducible refine eI ?_); first | ((with_reducible refine ev_idxn ?_ ?_ ?_); (· rfl); · omega) | (refine ev_idxon rfl rfl ?_ ?_; (· first | omega | (simp only [List.length_cons, List.length_nil, List.length_map, List.length_append]; omega))) | (refine ev_idxfn rfl rfl ?_ ?_; (focus omega)) | ((with_reducible refine ev_idx ?_ ?_ ?_); (· rfl); · omega) | (refine ev_idxo rfl rfl ?_ ?_; (· first | omega | (simp only [List.length_cons, List.length_nil, List.length_map, List.length_append]; omega))) | (refine ev_idxf rfl rfl ?_ ?_; (focus omega)) | refine ev_bd rfl ?_ | refine ev_bd0 rfl ?_) | ((with_reducible refine eS ?_); first | ((with_reducible first | refine ev_slh ?_ ?_ ?_ | refine ev_sll ?_ ?_ ?_); (· rfl); · omega) | ((first | refine ev_slvh rfl rfl ?_ ?_ | refine ev_slvl rfl rfl ?_ ?_); (· first | omega | (simp only [List.length_cons, List.length_nil, List.length_map, List.length_append]; omega))) | refine ev_bd rfl ?_ | refine ev_bd0 rfl ?_) | ((with_reducible refine eC ?_); first | fail) | ((with_reducible refine eK ?_); first | (with_reducible first | refine ev_ct ?_ | refine ev_cf ?_) | ((with_reducible refine ev_cond ?_ ?_) <;> intro h)) | ((with_reducible refine eD ?_); first | refine ev_bd rfl ?_ | refine ev_bd0 rfl ?_ | ( (refine ev_sto (f := sS) (a := nth ws i) rfl rfl rfl rfl rfl rfl rfl rfl ?_ rfl ?_; (focus omega))) | ( (refine ev_slvh rfl rfl ?_ ?_; (focus (simp only [List.length_map, List.length_set]; omega))))) | ((with_reducible refine PUJ105_17 ?_); (unfold JB105_17)) | refine ev_ret rfl ?_)
    have e4 : arr.set i (nth ws i) = ws := eq_of_nth (by rw [List.length_set, ha]) fun j hj => by
      rw [List.length_set, ha] at hj
      rw [nth_set']
      split
      · rename_i e; rw [e.1]
      · rename_i e; exact hp j (by omega)
    rw [e4]
    refine ev_ret (x := .sl 1 (ws.map sS)) (os := []) ?_ ⟨rfl, rfl⟩
    rw [nf_eq, retP_vw (by rw [List.length_map]; omega), List.take_of_length_le (by rw [List.length_map]; omega)]
theorem s_genSplit (w : List UInt8) (ws : List (List UInt8)) (hw : ∀ v ∈ w :: ws, 32 ∉ v) (hl : (w :: ws).length ≤ 1000) (hl2 : ∀ v ∈ w :: ws, v.length ≤ 1000) : Ex (fun n => callF prg2 n 105 [sS (joinW w ws), sS [32], iI 0, iI (-1)] []) (.sl 1 ((w :: ws).map sS)) [] := by
  refine ev_is.1 ?_
  have hc := s_Cnt (joinW w ws) 32
  rw [cnt_join ws w (hw _ (by simp)) (fun v hv => hw _ (by simp [hv]))] at hc
  have hj : ∀ (ws : List (List UInt8)) (w : List UInt8), ws.length ≤ (joinW w ws).length := fun ws => by
    induction ws with
    | nil => intro w; simp
    | cons v ws ih => intro w; rw [joinW_cons]; have := ih v; simp; omega
  have hj1 := hj ws w
  have hj2 : (joinW w ws).length ≤ 1001000 := by
    have : ∀ (ws : List (List UInt8)) (w : List UInt8), (∀ v ∈ w :: ws, v.length ≤ 1000) → (joinW w ws).length ≤ 1001 * (ws.length + 1) := fun ws => by
      induction ws with
      | nil => intro w h; have := h w (by simp); simp [joinW]; omega
      | cons v ws ih => intro w h; rw [joinW_cons]; have h1 := ih v (fun x hx => h x (by simp at hx ⊢; exact .inr hx)); have := h w (by simp); simp; omega
    have h1 := this ws w hl2
    simp at hl
    omega
  simp only [List.length_cons] at hl
  (refine PU105 (nl := 0) rfl ?_; unfold B105)
  repeat' (first | ( with_reducible refine ev_seql ?_) | ( ((with_reducible refine ev_min ?_ ?_); (focus omega))) | ((with_reducible refine eB ?_); first | ((with_reducible first | refine ev_lss ?_ ?_ | refine ev_eql ?_ ?_) <;> intro h <;> try (exfalso; omega)) | ((with_reducible first | refine ev_add ?_ ?_ | refine ev_sub ?_ ?_); · omega) | refine ev_bd rfl ?_ | refine ev_bd0 rfl ?_) | ((with_reducible refine eL ?_); first | ((with_reducible refine ev_lenm ?_ ?_); · rfl) | refine ev_lenom rfl rfl ?_ | refine ev_lenfm rfl rfl ?_ | refine ev_lenoc rfl rfl rfl ?_ | refine ev_lenc rfl rfl ?_ | refine ev_leno rfl rfl ?_ | refine ev_slen rfl ?_ | refine ev_bd rfl ?_ | refine ev_bd0 rfl ?_) | ((with_reducible refine eC ?_); first | ((refine ev_call (hc ..) rfl rfl ?_ rfl ?_); (focus first | exact .inl rfl | exact .inr rfl | (refine .inr ?_; simp [flagC, ownF, hasSl3, hasSl1, SO.hasSl, List.all_map, flatSV, SV.cells, Function.comp_def]; done)))) | ((with_reducible refine eK ?_); first | (with_reducible first | refine ev_ct ?_ | refine ev_cf ?_) | ((with_reducible refine ev_cond ?_ ?_) <;> intro h)) | ((with_reducible refine eD ?_); first | refine ev_bd rfl ?_ | refine ev_bd0 rfl ?_ | ( (refine ev_mk (f := sS) (z := []) rfl rfl rfl ?_ ?_; (focus (dsimp only; omega))))) | ((with_reducible refine PUJ105_7 ?_); (unfold JB105_7)) | refine ev_ret rfl ?_)
  · rename_i h; simp at h
  · have h3 := s_genSplit_L (w :: ws) hw (by simp; omega) hl2 (by simp) 0 (by omega) (joinW w ws) (List.replicate (ws.length + 1) []) 0 0 rfl rfl (by simp) (fun j hj => by omega)
    simp only [List.length_cons, Int.natCast_add, Int.cast_ofNat_Int] at h3
    exact h3
theorem s_Split (w : List UInt8) (ws : List (List UInt8)) (hw : ∀ v ∈ w :: ws, 32 ∉ v) (hl : (w :: ws).length ≤ 1000) (hl2 : ∀ v ∈ w :: ws, v.length ≤ 1000) : Ex (fun n => callF prg2 n 76 [sS (joinW w ws), sS [32]] []) (.sl 1 ((w :: ws).map sS)) [] := by
  refine ev_is.1 ?_
  (refine PU76 (nl := 0) rfl ?_; unfold B76)
  repeat' (first | ((with_reducible refine eC ?_); first | ((refine ev_call (s_genSplit w ws hw hl hl2) rfl rfl ?_ rfl ?_); (focus first | exact .inl rfl | exact .inr rfl | (refine .inr ?_; simp [flagC, ownF, hasSl3, hasSl1, SO.hasSl, List.all_map, flatSV, SV.cells, Function.comp_def]; done)))) | ((with_reducible refine eD ?_); first | refine ev_bd rfl ?_ | refine ev_bd0 rfl ?_) | refine ev_ret rfl ?_)
  all_goals first | exact ⟨rfl, rfl⟩ | trace_state
theorem s_nameRead (x : UInt8) (d : UInt8) (n : Int) (hn : Lib.atoi [d] = some n) : Ex (fun m => callF prg2 m 77 [sS [x, d]] []) (.tup [iI ((x.toNat : Int) - 96), iI n]) [] := by
  refine ev_is.1 ?_
  have hx := x.toNat_lt
  (refine PU77 (nl := 0) rfl ?_; unfold B77)
  repeat' (first | ( with_reducible refine ev_seql ?_) | ( ((with_reducible refine eS ?_); refine ev_strl rfl ?_ ?_; (focus (simp; done)))) | ( ((with_reducible refine ev_sidx ?_ ?_ ?_); (focus rfl); (focus (simp; done)))) | ((with_reducible refine eB ?_); first | ((with_reducible refine ev_eql ?_ ?_) <;> intro h <;> try (exfalso; omega)) | ((with_reducible first | refine ev_add ?_ ?_ | refine ev_sub ?_ ?_); · omega) | refine ev_bd rfl ?_ | refine ev_bd0 rfl ?_) | ((with_reducible refine eS ?_); first | ((with_reducible first | refine ev_slh ?_ ?_ ?_ | refine ev_sll ?_ ?_ ?_); (· rfl); · omega) | ((first | refine ev_slvh rfl rfl ?_ ?_ | refine ev_slvl rfl rfl ?_ ?_); (· first | omega | (simp only [List.length_cons, List.length_nil, List.length_map, List.length_append]; omega))) | refine ev_bd rfl ?_ | refine ev_bd0 rfl ?_) | ((with_reducible refine eC ?_); first | ((refine ev_call (s_Atoi [d] n (by simp) hn) rfl rfl ?_ rfl ?_); (focus first | exact .inl rfl | exact .inr rfl | (refine .inr ?_; simp [flagC, ownF, hasSl3, hasSl1, SO.hasSl, List.all_map, flatSV, SV.cells, Function.comp_def]; done)))) | ((with_reducible refine eV ?_); first | ( ((with_reducible refine ev_conv8 ?_ ?_ ?_ ?_); (focus rfl); (focus rfl); (focus (exact ⟨Int.natCast_nonneg _, by have := (nth [x, d] (Int.toNat 0)).toNat_lt; omega⟩)); intro hy0 hy1)) | ((with_reducible refine ev_conv64 ?_ ?_ ?_ ?_); (· rfl); (· rfl); · omega) | refine ev_bd rfl ?_ | refine ev_bd0 rfl ?_) | ((with_reducible refine eK ?_); first | (with_reducible first | refine ev_ct ?_ | refine ev_cf ?_) | ((with_reducible refine ev_cond ?_ ?_) <;> intro h)) | ((with_reducible refine eD ?_); first | refine ev_bd rfl ?_ | refine ev_bd0 rfl ?_) | refine ev_ret rfl ?_)
  all_goals first
    | (exfalso; simp at h; done)
    | exact ⟨by show SV.tup [iI _, iI n] = SV.tup [iI _, iI n]; rw [show nth [x, d] (Int.toNat 0) = x from rfl, show (x.toNat : Int) - 97 + 1 = x.toNat - 96 by omega], rfl⟩
    | trace_state
end Go.Proofs.YtebaiioejagfoaaGreatDoor
