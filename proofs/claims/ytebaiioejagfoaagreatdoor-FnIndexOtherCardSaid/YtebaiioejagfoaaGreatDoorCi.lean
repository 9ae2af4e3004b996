/- The evaluator S and what it says of functions: Cg, Cb, Cc, V2, V21, V22, Ch, Ci. -/
import Derived.Test.YtebaiioejagfoaaGreatDoorCf
import Derived.Test.YtebaiioejagfoaaGreatDoorBy
import Derived.Test.YtebaiioejagfoaaGreatDoorV3
/- impl.PkgRead: the text of a package, read, is the package. -/
namespace Go.Proofs.YtebaiioejagfoaaGreatDoor
open Go
set_option linter.unusedVariables false
set_option linter.unusedSimpArgs false
set_option maxHeartbeats 4000000
set_option maxRecDepth 100000
def nameW (n v : Int) : List UInt8 := [bt (96 + n), bt (48 + v)]
def fileW (f : TFile) : List UInt8 := [bt (48 + f.path), 58, bt (48 + f.data)]
def depW (d : TDep) : List UInt8 := nameW d.name d.least
def wordsP (p : TPkg) : List (List UInt8) := p.files.map fileW ++ p.deps.map depW
theorem pkgTx_join (p : TPkg) : pkgTx p = joinW (nameW p.name p.ver) (wordsP p) := by
  simp only [pkgTx, joinW, wordsP, nameW, List.flatMap_append, List.flatMap_map, List.append_assoc]
  rfl
theorem bt_toNat {x : Int} (h : 0 ≤ x ∧ x < 256) : ((bt x).toNat : Int) = x := by
  unfold bt
  rw [UInt8.toNat_ofNat_of_lt' (by simp [UInt8.size]; omega)]
  omega
theorem bt_ne {x : Int} (h : 0 ≤ x ∧ x < 256) {c : UInt8} (hc : x ≠ (c.toNat : Int)) : c ≠ bt x := fun e => hc (by rw [e, bt_toNat h])
theorem atoi_dig {d : Int} (h : 0 ≤ d ∧ d < 10) : Lib.atoi [bt (48 + d)] = some d := by
  have : d = 0 ∨ d = 1 ∨ d = 2 ∨ d = 3 ∨ d = 4 ∨ d = 5 ∨ d = 6 ∨ d = 7 ∨ d = 8 ∨ d = 9 := by omega
  rcases this with rfl | rfl | rfl | rfl | rfl | rfl | rfl | rfl | rfl | rfl <;> decide
def digF (f : TFile) : Prop := (0 ≤ f.path ∧ f.path < 10) ∧ 0 ≤ f.data ∧ f.data < 10
def digD (d : TDep) : Prop := (1 ≤ d.name ∧ d.name ≤ 4) ∧ 0 ≤ d.least ∧ d.least < 10
theorem nameW_no {n v : Int} (h : (1 ≤ n ∧ n ≤ 4) ∧ 0 ≤ v ∧ v < 10) {c : UInt8} (hc : c.toNat = 32 ∨ c.toNat = 58) : c ∉ nameW n v := by
  simp only [nameW, List.mem_cons, List.not_mem_nil, or_false, not_or]
  exact ⟨bt_ne (by omega) (by omega), bt_ne (by omega) (by omega)⟩
theorem fileW_no {f : TFile} (h : digF f) : (32 : UInt8) ∉ fileW f := by
  unfold digF at h
  simp only [fileW, List.mem_cons, List.not_mem_nil, or_false, not_or]
  exact ⟨bt_ne (by omega) (by simp; omega), by decide, bt_ne (by omega) (by simp; omega)⟩
theorem pkg_digs {p : TPkg} (h : pkgOk p = true) : p.files.length ≤ 2 ∧ p.deps.length ≤ 2 ∧ (∀ i, i < p.files.length → digF (nth p.files i)) ∧ ∀ i, i < p.deps.length → digD (nth p.deps i) := by
  obtain ⟨hn, hv, hf, hd⟩ := pkgOk_iff.1 h
  simp only [filesOk, depsOk, filesAt, depsAt, Bool.and_eq_true, decide_eq_true_eq] at hf hd
  refine ⟨hf.1, hd.1, fun i hi => ?_, fun i hi => ?_⟩
  · have := hf.2 i hi; unfold fileAt at this; unfold digF; omega
  · have := hd.2 i hi; unfold depAt at this; unfold digD; omega
theorem words_len {p : TPkg} : (wordsP p).length = p.files.length + p.deps.length := by simp [wordsP]
theorem words_file {p : TPkg} {i : Nat} (hi : i < p.files.length) : nth (wordsP p) i = fileW (nth p.files i) := by
  have h := get_nth (l := wordsP p) (i := i) (by rw [words_len]; omega)
  unfold wordsP at h ⊢
  rw [List.getElem?_append_left (by simp; omega), List.getElem?_map, get_nth hi] at h
  exact (Option.some.inj h).symm
theorem words_dep {p : TPkg} {i : Nat} (hi : i < p.deps.length) : nth (wordsP p) (p.files.length + i) = depW (nth p.deps i) := by
  have h := get_nth (l := wordsP p) (i := p.files.length + i) (by rw [words_len]; omega)
  unfold wordsP at h ⊢
  rw [List.getElem?_append_right (by simp), List.length_map, Nat.add_sub_cancel_left, List.getElem?_map, get_nth hi] at h
  exact (Option.some.inj h).symm
theorem s_cutFile (f : TFile) (h : digF f) : Ex (fun n => callF prg2 n 78 [sS (fileW f), sS [58]] []) (.tup [sS [bt (48 + f.path)], sS [bt (48 + f.data)], bB true]) [] :=
  s_cutIn [bt (48 + f.path)] [bt (48 + f.data)] 58 (by unfold digF at h; simp only [List.mem_cons, List.not_mem_nil, or_false]; exact bt_ne (by omega) (by simp; omega)) (by simp)
theorem s_cutDep (d : TDep) (h : digD d) : Ex (fun n => callF prg2 n 78 [sS (depW d), sS [58]] []) (.tup [sS (depW d), sS [], bB false]) [] := s_cutOut _ 58 (nameW_no h (.inr rfl))
theorem s_readName (n v : Int) (h : (1 ≤ n ∧ n ≤ 4) ∧ 0 ≤ v ∧ v < 10) : Ex (fun m => callF prg2 m 77 [sS (nameW n v)] []) (.tup [iI n, iI v]) [] := by
  have := s_nameRead (bt (96 + n)) (bt (48 + v)) v (atoi_dig h.2)
  rw [bt_toNat (by omega), show 96 + n - 96 = n by omega] at this
  exact this
theorem s_dig (d : Int) (h : 0 ≤ d ∧ d < 10) : Ex (fun m => callF prg2 m 79 [sS [bt (48 + d)]] []) (.tup [iI d, .dead]) [] := s_Atoi _ d (by simp) (atoi_dig h)
theorem s_SplitP (p : TPkg) (hp : pkgOk p = true) : Ex (fun n => callF prg2 n 76 [sS (pkgText p), sS [32]] []) (.sl 1 ((nameW p.name p.ver :: wordsP p).map sS)) [] := by
  obtain ⟨h1, h2, h3, h4⟩ := pkg_digs hp
  obtain ⟨hn, hv, -, -⟩ := pkgOk_iff.1 hp
  have hall : ∀ v ∈ nameW p.name p.ver :: wordsP p, 32 ∉ v ∧ v.length ≤ 1000 := by
    intro v hv1
    rcases List.mem_cons.1 hv1 with rfl | hv1
    · exact ⟨nameW_no (by omega) (.inl rfl), by simp [nameW]⟩
    · unfold wordsP at hv1
      rcases List.mem_append.1 hv1 with hv1 | hv1
      · obtain ⟨f, hf, rfl⟩ := List.mem_map.1 hv1
        obtain ⟨j, hj, rfl⟩ := mem_nth hf
        exact ⟨fileW_no (h3 j hj), by simp [fileW]⟩
      · obtain ⟨f, hf, rfl⟩ := List.mem_map.1 hv1
        obtain ⟨j, hj, rfl⟩ := mem_nth hf
        exact ⟨nameW_no (h4 j hj) (.inl rfl), by simp [depW, nameW]⟩
  have := s_Split (nameW p.name p.ver) (wordsP p) (fun v hv => (hall v hv).1) (by rw [List.length_cons, words_len]; omega) (fun v hv => (hall v hv).2)
  unfold pkgText
  rw [if_pos hp, pkgTx_join]
  exact this
theorem PE37 (n : Nat) (x0 : SV) (os : List SO) : callF prg2 (n + 1) 37 [x0] os = X37 (callF prg2 n) (n + 1) os.length x0 os := by kernel_rfl
theorem PUL37_7 {nl c : Nat} {Q : SV → List SO → Prop} {x0 x2 x5 x33 x34 x35 : SV} {os : List SO} (h : Ev (fun n => gcB nl [x0, x2, x5, x33, x34, x35] os fun xs os => G37_7 (callF prg2 n) (n + 1) nl (n + 1 - (c + 1)) xs os) Q) : Ev (fun n => L37_7 (callF prg2 n) (n + 1) nl (n + 1 - c) x0 x2 x5 x33 x34 x35 os) Q := ev_loop (L := fun n m => L37_7 (callF prg2 n) (n + 1) nl m x0 x2 x5 x33 x34 x35 os) (fun n m => L37_7_s _ _ _ _ _ _ _ _ _ _ _) h
theorem PUG37_7 {nl : Nat} {Q : SV → List SO → Prop} (m7 : Nat → Nat) {x0 x2 x5 x33 x34 x35 : SV} {os : List SO} (h : Ev (fun n => GB37_7 (callF prg2 n) (n + 1) nl (m7 n) x0 x2 x5 x33 x34 x35 os) Q) : Ev (fun n => G37_7 (callF prg2 n) (n + 1) nl (m7 n) [x0, x2, x5, x33, x34, x35] os) Q := ev_eq (fun n => G37_7_s _ _ _ _ _ _ _ _ _ _ _) h
theorem PUJ37_16 {nl : Nat} {Q : SV → List SO → Prop} {m7 : Nat → Nat} {x0 x2 x5 x33 x34 x35 : SV} {os : List SO} (h : Ev (fun n => JB37_16 (callF prg2 n) (n + 1) nl (m7 n) x0 x2 x5 x33 x34 x35 os) Q) : Ev (fun n => J37_16 (callF prg2 n) (n + 1) nl (m7 n) x0 x2 x5 x33 x34 x35 os) Q := ev_eq (fun n => J37_16_s _ _ _ _ _ _ _ _ _ _ _) h
theorem PU37 {Q : SV → List SO → Prop} {x0 : SV} {os : List SO} {nl : Nat} (hnl : os.length = nl) (h : Ev (fun n => B37 (callF prg2 n) (n + 1) nl x0 os) Q) : Ev (fun n => callF prg2 n 37 [x0] os) Q := by subst hnl; exact ev_fun (fun n => (PE37 n _ _).trans (X37_s _ _ _ _ _)) h
theorem PVL37_7 {nl : Nat} {Q : SV → List SO → Prop} {x0 x2 x5 x33 x34 x35 : SV} {os : List SO} (h : Ev (fun n => gcB nl [x0, x2, x5, x33, x34, x35] os fun xs os => G37_7 (callF prg2 n) (n + 1) nl (n + 1 - 1) xs os) Q) : Ev (fun n => L37_7 (callF prg2 n) (n + 1) nl (n + 1) x0 x2 x5 x33 x34 x35 os) Q := PUL37_7 (c := 0) h
theorem s_PkgRead_L2 (p : TPkg) (hp : pkgOk p = true) : ∀ i, i ≤ p.deps.length → ∀ (D : List SV) (k : Int) (c : Nat), k = ((p.files.length + i : Nat) : Int) → D = (p.deps.take i).map eDep →
    Ev (fun n => G37_7 (callF prg2 n) (n + 1) 0 (n + 1 - c) [sS (pkgText p), .ptr 0 0, .ptr 1 0, .sl 1 ((wordsP p).map sS), iI (wordsP p).length, iI k] [.box [iI 0, iI 0, .osl 2, .osl 3], .box [iI p.name, iI p.ver, .osl 4, .osl 5], .arr false 2 [], .arr false 2 [], .arr false 2 (p.files.map eFile), .arr false 2 D]) (Is (.tup [ePkg p, bB true]) []) := by
  obtain ⟨h1, h2, h3, h4⟩ := pkg_digs hp
  have hB : Ex (fun m => callF prg2 m 39 [ePkg p] []) (bB true) [] := by
    have := s_PkgOkI p.name p.ver p.files p.deps (by omega) (by omega)
    rw [show (⟨p.name, p.ver, p.files, p.deps⟩ : TPkg) = p from rfl, hp] at this
    exact lift this rfl
  have hT := s_PkgTextN p (by omega) (by omega)
  have hwl := words_len (p := p)
  refine up_ind ?_
  intro i hi ih D k c hk hD
  subst hk
  have hDl : D.length ≤ 2 := by rw [hD, List.length_map, List.length_take]; omega
  subst hD
  have hDl2 : (p.deps.take i).length ≤ 2 := by rw [List.length_take]; omega
  by_cases hi2 : i < p.deps.length
  · have hw := words_dep hi2
    have hc := s_cutDep (nth p.deps i) (h4 i hi2)
    have hr := s_readName _ _ (h4 i hi2)
    rw [← hw] at hc
    rw [show nameW (nth p.deps i).name (nth p.deps i).least = nth (wordsP p) (p.files.length + i) from hw.symm] at hr
    (refine PUG37_7 _ ?_; unfold GB37_7)
    repeat' (first | ((with_reducible refine eG ?_); first | (with_reducible first | refine ev_gtt ?_ | refine ev_gff ?_ | refine ev_gtf ?_ | refine ev_gft ?_ | refine ev_gu ?_) | refine ev_bd rfl ?_ | refine ev_bd0 rfl ?_ | ((with_reducible refine ev_gB ?_ ?_) <;> intro h)) | ((with_reducible refine eB ?_); first | ((with_reducible first | refine ev_lss ?_ ?_ | refine ev_neq ?_ ?_) <;> intro h <;> try (exfalso; omega)) | ((with_reducible refine ev_add ?_ ?_); · omega) | refine ev_bd rfl ?_ | refine ev_bd0 rfl ?_) | ((with_reducible refine eI ?_); first | ((with_reducible refine ev_idxn ?_ ?_ ?_); (· rfl); · omega) | (refine ev_idxon rfl rfl ?_ ?_; (· first | omega | (simp only [List.length_cons, List.length_nil, List.length_map, List.length_append]; omega))) | (refine ev_idxfn rfl rfl ?_ ?_; (focus omega)) | ((with_reducible refine ev_idx ?_ ?_ ?_); (· rfl); · omega) | (refine ev_idxo rfl rfl ?_ ?_; (· first | omega | (simp only [List.length_cons, List.length_nil, List.length_map, List.length_append]; omega))) | (refine ev_idxf rfl rfl ?_ ?_; (focus omega)) | refine ev_bd rfl ?_ | refine ev_bd0 rfl ?_) | ((with_reducible refine eC ?_); first | ((refine ev_call (hc ..) rfl rfl ?_ rfl ?_); (focus first | exact .inl rfl | exact .inr rfl | (refine .inr ?_; simp [flagC, ownF, hasSl3, hasSl1, SO.hasSl, List.all_map, flatSV, SV.cells, Function.comp_def]; done))) | ((refine ev_call (hr ..) rfl rfl ?_ rfl ?_); (focus first | exact .inl rfl | exact .inr rfl | (refine .inr ?_; simp [flagC, ownF, hasSl3, hasSl1, SO.hasSl, List.all_map, flatSV, SV.cells, Function.comp_def]; done)))) | ((with_reducible refine eA ?_); first | (refine ev_app rfl rfl rfl rfl rfl ?_ ?_; · first | decide | (simp only [List.length_append, List.length_cons, List.length_nil, List.length_map, List.length_take, List.length_drop]; omega))) | ((with_reducible refine eK ?_); first | (with_reducible first | refine ev_ct ?_ | refine ev_cf ?_) | ((with_reducible refine ev_cond ?_ ?_) <;> intro h)) | ((with_reducible refine eO ?_); first | refine ev_bd rfl ?_ | (refine ev_bdB rfl ?_ ?_ <;> intro h <;> try (exfalso; simp_all; done)) | refine ev_bd0 rfl ?_ | (refine ev_ldm rfl ?_ rfl ?_; (focus omega)) | (refine ev_ldmB rfl ?_ rfl ?_ ?_; (focus omega); (all_goals intro h)) | (refine ev_ldz rfl rfl rfl ?_ ?_ ?_; (· simp); (· first | omega | (simp only [List.length_cons, List.length_nil, List.length_map, List.length_append]; omega)); intro w)) | ((with_reducible refine eD ?_); first | refine ev_bd rfl ?_ | refine ev_bd0 rfl ?_ | ((with_reducible refine ev_pickB ?_ ?_) <;> intro h)) | ((with_reducible refine eH ?_); first | refine ev_gcB rfl ?_) | ((with_reducible refine PUJ37_16 ?_); (unfold JB37_16)) | (with_reducible first | refine PUL37_7 ?_ | refine PVL37_7 ?_) | ((with_reducible refine ih ?_ _ _ _ ?_ ?_) <;> (first | omega | assumption | ((rw [take_nth (by omega), List.map_append]; rfl)) | (simp only [*, List.map_append, List.length_append, List.length_cons, List.length_nil, List.map_cons, List.map_nil]; done) | (simp_all; done) | (simp_all; omega))) | refine ev_ret rfl ?_)
    all_goals trace_state
  · rw [List.take_of_length_le (by omega)]
    (refine PUG37_7 _ ?_; unfold GB37_7)
    repeat' (first | ( with_reducible refine ev_sneq ?_) | ((with_reducible refine eG ?_); first | (with_reducible first | refine ev_gtt ?_ | refine ev_gff ?_ | refine ev_gtf ?_ | refine ev_gft ?_ | refine ev_gu ?_) | refine ev_bd rfl ?_ | refine ev_bd0 rfl ?_ | ((with_reducible refine ev_gB ?_ ?_) <;> intro h)) | ((with_reducible refine eB ?_); first | ((with_reducible first | refine ev_lss ?_ ?_ | refine ev_neq ?_ ?_) <;> intro h <;> try (exfalso; omega)) | refine ev_bd rfl ?_ | refine ev_bd0 rfl ?_) | ((with_reducible refine eI ?_); first | ((with_reducible refine ev_idxn ?_ ?_ ?_); (· rfl); · omega) | (refine ev_idxon rfl rfl ?_ ?_; (· first | omega | (simp only [List.length_cons, List.length_nil, List.length_map, List.length_append]; omega))) | (refine ev_idxfn rfl rfl ?_ ?_; (focus omega)) | ((with_reducible refine ev_idx ?_ ?_ ?_); (· rfl); · omega) | (refine ev_idxo rfl rfl ?_ ?_; (· first | omega | (simp only [List.length_cons, List.length_nil, List.length_map, List.length_append]; omega))) | (refine ev_idxf rfl rfl ?_ ?_; (focus omega)) | refine ev_bd rfl ?_ | refine ev_bd0 rfl ?_) | ((with_reducible refine eC ?_); first | ((refine ev_call (hB ..) rfl rfl ?_ rfl ?_); (focus first | exact .inl rfl | exact .inr rfl | (refine .inr ?_; simp [flagC, ownF, hasSl3, hasSl1, SO.hasSl, List.all_map, flatSV, SV.cells, Function.comp_def]; done))) | ((refine ev_call (hT ..) rfl rfl ?_ rfl ?_); (focus first | exact .inl rfl | exact .inr rfl | (refine .inr ?_; simp [flagC, ownF, hasSl3, hasSl1, SO.hasSl, List.all_map, flatSV, SV.cells, Function.comp_def]; done)))) | ((with_reducible refine eA ?_); first | (refine ev_app rfl rfl rfl rfl rfl ?_ ?_; · first | decide | (simp only [List.length_append, List.length_cons, List.length_nil, List.length_map, List.length_take, List.length_drop]; omega))) | ((with_reducible refine eK ?_); first | (with_reducible first | refine ev_ct ?_ | refine ev_cf ?_) | ((with_reducible refine ev_cond ?_ ?_) <;> intro h)) | ((with_reducible refine eO ?_); first | refine ev_bd rfl ?_ | (refine ev_bdB rfl ?_ ?_ <;> intro h <;> try (exfalso; simp_all; done)) | refine ev_bd0 rfl ?_ | (refine ev_ldm rfl ?_ rfl ?_; (focus omega)) | (refine ev_ldmB rfl ?_ rfl ?_ ?_; (focus omega); (all_goals intro h)) | (refine ev_ldz rfl rfl rfl ?_ ?_ ?_; (· simp); (· first | omega | (simp only [List.length_cons, List.length_nil, List.length_map, List.length_append]; omega)); intro w)) | ((with_reducible refine eD ?_); first | refine ev_bd rfl ?_ | refine ev_bd0 rfl ?_ | ((with_reducible refine ev_pickB ?_ ?_) <;> intro h)) | refine ev_ret rfl ?_)
    all_goals first
      | exact ⟨rfl, rfl⟩
      | (exfalso; simp at h; done)
      | (exfalso; omega)
      | trace_state
theorem s_PkgRead_L1 (p : TPkg) (hp : pkgOk p = true) : ∀ i, i ≤ p.files.length → ∀ (A : List SV) (k : Int) (c : Nat), k = (i : Int) → A = (p.files.take i).map eFile →
    Ev (fun n => G37_7 (callF prg2 n) (n + 1) 0 (n + 1 - c) [sS (pkgText p), .ptr 0 0, .ptr 1 0, .sl 1 ((wordsP p).map sS), iI (wordsP p).length, iI k] [.box [iI 0, iI 0, .osl 2, .osl 3], .box [iI p.name, iI p.ver, .osl 4, .osl 5], .arr false 2 [], .arr false 2 [], .arr false 2 A, .arr false 2 []]) (Is (.tup [ePkg p, bB true]) []) := by
  obtain ⟨h1, h2, h3, h4⟩ := pkg_digs hp
  have hwl := words_len (p := p)
  refine up_ind ?_
  intro i hi ih A k c hk hA
  subst hk
  have hAl : A.length ≤ 2 := by rw [hA, List.length_map, List.length_take]; omega
  subst hA
  have hAl2 : (p.files.take i).length ≤ 2 := by rw [List.length_take]; omega
  by_cases hi2 : i < p.files.length
  · have hw := words_file hi2
    have hc := s_cutFile (nth p.files i) (h3 i hi2)
    have ha := s_dig _ (h3 i hi2).1
    have hb := s_dig _ (h3 i hi2).2
    rw [← hw] at hc
    (refine PUG37_7 _ ?_; unfold GB37_7)
    repeat' (first | ((with_reducible refine eG ?_); first | (with_reducible first | refine ev_gtt ?_ | refine ev_gff ?_ | refine ev_gtf ?_ | refine ev_gft ?_ | refine ev_gu ?_) | refine ev_bd rfl ?_ | refine ev_bd0 rfl ?_ | ((with_reducible refine ev_gB ?_ ?_) <;> intro h)) | ((with_reducible refine eB ?_); first | ((with_reducible first | refine ev_lss ?_ ?_ | refine ev_neq ?_ ?_) <;> intro h <;> try (exfalso; omega)) | ((with_reducible refine ev_add ?_ ?_); · omega) | refine ev_bd rfl ?_ | refine ev_bd0 rfl ?_) | ((with_reducible refine eI ?_); first | ((with_reducible refine ev_idxn ?_ ?_ ?_); (· rfl); · omega) | (refine ev_idxon rfl rfl ?_ ?_; (· first | omega | (simp only [List.length_cons, List.length_nil, List.length_map, List.length_append]; omega))) | (refine ev_idxfn rfl rfl ?_ ?_; (focus omega)) | ((with_reducible refine ev_idx ?_ ?_ ?_); (· rfl); · omega) | (refine ev_idxo rfl rfl ?_ ?_; (· first | omega | (simp only [List.length_cons, List.length_nil, List.length_map, List.length_append]; omega))) | (refine ev_idxf rfl rfl ?_ ?_; (focus omega)) | refine ev_bd rfl ?_ | refine ev_bd0 rfl ?_) | ((with_reducible refine eC ?_); first | ((refine ev_call (hc ..) rfl rfl ?_ rfl ?_); (focus first | exact .inl rfl | exact .inr rfl | (refine .inr ?_; simp [flagC, ownF, hasSl3, hasSl1, SO.hasSl, List.all_map, flatSV, SV.cells, Function.comp_def]; done))) | ((refine ev_call (ha ..) rfl rfl ?_ rfl ?_); (focus first | exact .inl rfl | exact .inr rfl | (refine .inr ?_; simp [flagC, ownF, hasSl3, hasSl1, SO.hasSl, List.all_map, flatSV, SV.cells, Function.comp_def]; done))) | ((refine ev_call (hb ..) rfl rfl ?_ rfl ?_); (focus first | exact .inl rfl | exact .inr rfl | (refine .inr ?_; simp [flagC, ownF, hasSl3, hasSl1, SO.hasSl, List.all_map, flatSV, SV.cells, Function.comp_def]; done)))) | ((with_reducible refine eA ?_); first | (refine ev_app rfl rfl rfl rfl rfl ?_ ?_; · first | decide | (simp only [List.length_append, List.length_cons, List.length_nil, List.length_map, List.length_take, List.length_drop]; omega))) | ((with_reducible refine eK ?_); first | (with_reducible first | refine ev_ct ?_ | refine ev_cf ?_) | ((with_reducible refine ev_cond ?_ ?_) <;> intro h)) | ((with_reducible refine eO ?_); first | refine ev_bd rfl ?_ | (refine ev_bdB rfl ?_ ?_ <;> intro h <;> try (exfalso; simp_all; done)) | refine ev_bd0 rfl ?_ | (refine ev_ldm rfl ?_ rfl ?_; (focus omega)) | (refine ev_ldmB rfl ?_ rfl ?_ ?_; (focus omega); (all_goals intro h)) | (refine ev_ldz rfl rfl rfl ?_ ?_ ?_; (· simp); (· first | omega | (simp only [List.length_cons, List.length_nil, List.length_map, List.length_append]; omega)); intro w)) | ((with_reducible refine eD ?_); first | refine ev_bd rfl ?_ | refine ev_bd0 rfl ?_ | ((with_reducible refine ev_pickB ?_ ?_) <;> intro h)) | ((with_reducible refine eH ?_); first | refine ev_gcB rfl ?_) | ((with_reducible refine PUJ37_16 ?_); (unfold JB37_16)) | (with_reducible first | refine PUL37_7 ?_ | refine PVL37_7 ?_) | ((with_reducible refine ih ?_ _ _ _ ?_ ?_) <;> (first | omega | assumption | ((rw [take_nth (by omega), List.map_append]; rfl)) | (simp only [*, List.map_append, List.length_append, List.length_cons, List.length_nil, List.map_cons, List.map_nil]; done) | (simp_all; done) | (simp_all; omega))) | refine ev_ret rfl ?_)
    all_goals trace_state
  · obtain rfl : i = p.files.length := by omega
    rw [List.take_of_length_le (by omega)]
    exact s_PkgRead_L2 p hp 0 (by omega) _ _ c rfl rfl
theorem s_PkgReadN (p : TPkg) (hp : pkgOk p = true) : Ex (fun m => callF prg2 m 37 [sS (pkgText p)] []) (.tup [ePkg p, bB true]) [] := by
  refine ev_is.1 ?_
  have h16 := pkgText_len p
  obtain ⟨h1, h2, h3, h4⟩ := pkg_digs hp
  obtain ⟨hn, hv, -, -⟩ := pkgOk_iff.1 hp
  have hwl := words_len (p := p)
  (refine PU37 (nl := 0) rfl ?_; unfold B37)
  repeat' (first | ((with_reducible refine eB ?_); first | ((with_reducible refine ev_gtr ?_ ?_) <;> intro h <;> try (exfalso; omega)) | refine ev_bd rfl ?_ | refine ev_bd0 rfl ?_) | ((with_reducible refine eL ?_); first | ((with_reducible refine ev_lenm ?_ ?_); · rfl) | refine ev_lenom rfl rfl ?_ | refine ev_lenfm rfl rfl ?_ | refine ev_lenoc rfl rfl rfl ?_ | refine ev_lenc rfl rfl ?_ | refine ev_leno rfl rfl ?_ | refine ev_slen rfl ?_ | refine ev_bd rfl ?_ | refine ev_bd0 rfl ?_) | ((with_reducible refine eI ?_); first | ((with_reducible refine ev_idxn ?_ ?_ ?_); (· rfl); · omega) | (refine ev_idxon rfl rfl ?_ ?_; (· first | omega | (simp only [List.length_cons, List.length_nil, List.length_map, List.length_append]; omega))) | (refine ev_idxfn rfl rfl ?_ ?_; (focus omega)) | ((with_reducible refine ev_idx ?_ ?_ ?_); (· rfl); · omega) | (refine ev_idxo rfl rfl ?_ ?_; (· first | omega | (simp only [List.length_cons, List.length_nil, List.length_map, List.length_append]; omega))) | (refine ev_idxf rfl rfl ?_ ?_; (focus omega)) | refine ev_bd rfl ?_ | refine ev_bd0 rfl ?_) | ((with_reducible refine eS ?_); first | ((with_reducible first | refine ev_slh ?_ ?_ ?_ | refine ev_sll ?_ ?_ ?_); (· rfl); · omega) | ((first | refine ev_slvh rfl rfl ?_ ?_ | refine ev_slvl rfl rfl ?_ ?_); (· first | omega | (simp only [List.length_cons, List.length_nil, List.length_map, List.length_append]; omega))) | ( (refine ev_sll rfl ?_ ?_; (focus (simp only [List.length_cons]; omega)))) | refine ev_bd rfl ?_ | refine ev_bd0 rfl ?_) | ((with_reducible refine eC ?_); first | ((refine ev_call (s_SplitP p hp) rfl rfl ?_ rfl ?_); (focus first | exact .inl rfl | exact .inr rfl | (refine .inr ?_; simp [flagC, ownF, hasSl3, hasSl1, SO.hasSl, List.all_map, flatSV, SV.cells, Function.comp_def]; done))) | ((refine ev_call (s_readName p.name p.ver (by omega)) rfl rfl ?_ rfl ?_); (focus first | exact .inl rfl | exact .inr rfl | (refine .inr ?_; simp [flagC, ownF, hasSl3, hasSl1, SO.hasSl, List.all_map, flatSV, SV.cells, Function.comp_def]; done)))) | ((with_reducible refine eK ?_); first | (with_reducible first | refine ev_ct ?_ | refine ev_cf ?_) | ((with_reducible refine ev_cond ?_ ?_) <;> intro h)) | ((with_reducible refine eO ?_); first | refine ev_bd rfl ?_ | (refine ev_bdB rfl ?_ ?_ <;> intro h <;> try (exfalso; simp_all; done)) | refine ev_bd0 rfl ?_ | (refine ev_ldm rfl ?_ rfl ?_; (focus omega)) | (refine ev_ldmB rfl ?_ rfl ?_ ?_; (focus omega); (all_goals intro h))) | ((with_reducible refine eD ?_); first | refine ev_bd rfl ?_ | refine ev_bd0 rfl ?_) | ((with_reducible refine eH ?_); first | refine ev_gcB rfl ?_) | (with_reducible first | refine PUL37_7 ?_ | refine PVL37_7 ?_) | refine ev_ret rfl ?_)
  exact s_PkgRead_L1 p hp 0 (by omega) _ 0 1 rfl rfl
end Go.Proofs.YtebaiioejagfoaaGreatDoor

/- Sums, what is told of packages, indexes, on the program's side. -/
namespace Go.Proofs.YtebaiioejagfoaaGreatDoor
open Go
set_option linter.unusedVariables false
set_option linter.unusedSimpArgs false
set_option maxHeartbeats 4000000
set_option maxRecDepth 100000
theorem PE35 (n : Nat) (x0 : SV) (os : List SO) : callF prg2 (n + 1) 35 [x0] os = X35 (callF prg2 n) (n + 1) os.length x0 os := by kernel_rfl
theorem PU35 {Q : SV → List SO → Prop} {x0 : SV} {os : List SO} {nl : Nat} (hnl : os.length = nl) (h : Ev (fun n => B35 (callF prg2 n) (n + 1) nl x0 os) Q) : Ev (fun n => callF prg2 n 35 [x0] os) Q := by subst hnl; exact ev_fun (fun n => (PE35 n _ _).trans (X35_s _ _ _ _ _)) h
theorem PE8 (n : Nat) (x0 x1 x2 : SV) (os : List SO) : callF prg2 (n + 1) 8 [x0, x1, x2] os = X8 (callF prg2 n) (n + 1) os.length x0 x1 x2 os := by kernel_rfl
theorem PUL8_5 {nl c : Nat} {Q : SV → List SO → Prop} {x6 x8 x18 x19 x20 : SV} {os : List SO} (h : Ev (fun n => gcB nl [x6, x8, x18, x19, x20] os fun xs os => G8_5 (callF prg2 n) (n + 1) nl (n + 1 - (c + 1)) xs os) Q) : Ev (fun n => L8_5 (callF prg2 n) (n + 1) nl (n + 1 - c) x6 x8 x18 x19 x20 os) Q := ev_loop (L := fun n m => L8_5 (callF prg2 n) (n + 1) nl m x6 x8 x18 x19 x20 os) (fun n m => L8_5_s _ _ _ _ _ _ _ _ _ _) h
theorem PUG8_5 {nl : Nat} {Q : SV → List SO → Prop} (m5 : Nat → Nat) {x6 x8 x18 x19 x20 : SV} {os : List SO} (h : Ev (fun n => GB8_5 (callF prg2 n) (n + 1) nl (m5 n) x6 x8 x18 x19 x20 os) Q) : Ev (fun n => G8_5 (callF prg2 n) (n + 1) nl (m5 n) [x6, x8, x18, x19, x20] os) Q := ev_eq (fun n => G8_5_s _ _ _ _ _ _ _ _ _ _) h
theorem PU8 {Q : SV → List SO → Prop} {x0 x1 x2 : SV} {os : List SO} {nl : Nat} (hnl : os.length = nl) (h : Ev (fun n => B8 (callF prg2 n) (n + 1) nl x0 x1 x2 os) Q) : Ev (fun n => callF prg2 n 8 [x0, x1, x2] os) Q := by subst hnl; exact ev_fun (fun n => (PE8 n _ _ _ _).trans (X8_s _ _ _ _ _ _ _)) h
theorem PVL8_5 {nl : Nat} {Q : SV → List SO → Prop} {x6 x8 x18 x19 x20 : SV} {os : List SO} (h : Ev (fun n => gcB nl [x6, x8, x18, x19, x20] os fun xs os => G8_5 (callF prg2 n) (n + 1) nl (n + 1 - 1) xs os) Q) : Ev (fun n => L8_5 (callF prg2 n) (n + 1) nl (n + 1) x6 x8 x18 x19 x20 os) Q := PUL8_5 (c := 0) h
theorem ev_bytes {T : Tab} {s d e : Nat} {l : List UInt8} {y : SV} {os os' : List SO} {F : Nat → SV → List SO → Out} {Q} (hs : T.und s = some .str) (hd : T.und d = some (.slice e)) (he : T.und e = some (.int .u8))
    (hn : nf (some (.osl os.length, os ++ [.arr false 1 (l.map byteSV)])) = some (y, os')) (h2 : Ev (fun n => F n y os') Q) : Ev (fun n => bd (convS T os s d (sS l)) (F n)) Q := by
  rw [nf_eq] at hn
  refine ev_bdx (x := y) (os := os') ?_ h2
  rw [← hn]
  simp [convS, hs, hd, he]
theorem s_SumOfI_L (l : List UInt8) (hl : l.length ≤ 2000000) : ∀ i, i ≤ l.length → ∀ (s k : Int) (c : Nat), k = i → s = sumOf (l.take i) →
    Ev (fun n => L75_3 (callF prg n) (n + 1) 0 (n + 1 - c) (iI s) (.osl 0) (iI l.length) (iI k) [.arr false 1 (l.map byteSV)]) (Is (iI (sumOf l)) []) := by
  refine up_ind ?_
  intro i hi ih s k c hk hs
  subst hk
  have hr := sumOf_rng (l.take i)
  have hb : (nth l i).toNat < 256 := (nth l i).toNat_lt
  (refine UL75_3 ?_; unfold LB75_3)
  repeat' (first | ((with_reducible refine eB ?_); first | ((with_reducible refine ev_lss ?_ ?_) <;> intro h <;> try (exfalso; omega)) | ((with_reducible first | refine ev_add ?_ ?_ | refine ev_mul ?_ ?_); · omega) | ((with_reducible refine ev_rem ?_ ?_); (· omega); intro x hx hx0 hx1) | refine ev_bd rfl ?_ | refine ev_bd0 rfl ?_) | ((with_reducible refine eI ?_); first | ((with_reducible refine ev_idxn ?_ ?_ ?_); (· rfl); · omega) | (refine ev_idxon rfl rfl ?_ ?_; (· first | omega | (simp only [List.length_cons, List.length_nil, List.length_map, List.length_append]; omega))) | (refine ev_idxfn rfl rfl ?_ ?_; (focus omega)) | ((with_reducible refine ev_idx ?_ ?_ ?_); (· rfl); · omega) | (refine ev_idxo rfl rfl ?_ ?_; (· first | omega | (simp only [List.length_cons, List.length_nil, List.length_map, List.length_append]; omega))) | (refine ev_idxf rfl rfl ?_ ?_; (focus omega)) | refine ev_bd rfl ?_ | refine ev_bd0 rfl ?_) | ((with_reducible refine eV ?_); first | ( ((with_reducible refine ev_conv8 ?_ ?_ ?_ ?_); (focus rfl); (focus rfl); (focus omega); intro hy0 hy1)) | ((with_reducible refine ev_conv64 ?_ ?_ ?_ ?_); (· rfl); (· rfl); · omega) | refine ev_bd rfl ?_ | refine ev_bd0 rfl ?_) | ((with_reducible refine eK ?_); first | (with_reducible first | refine ev_ct ?_ | refine ev_cf ?_) | ((with_reducible refine ev_cond ?_ ?_) <;> intro h)) | ((with_reducible refine eO ?_); first | refine ev_bd rfl ?_ | (refine ev_bdB rfl ?_ ?_ <;> intro h <;> try (exfalso; simp_all; done)) | refine ev_bd0 rfl ?_ | (refine ev_ldm rfl ?_ rfl ?_; (focus omega)) | (refine ev_ldmB rfl ?_ rfl ?_ ?_; (focus omega); (all_goals intro h))) | ((with_reducible refine eD ?_); first | refine ev_bd rfl ?_ | refine ev_bd0 rfl ?_) | ((with_reducible refine ih ?_ _ _ _ ?_ ?_) <;> (first | omega | assumption | ((rw [sumOf_step (by omega), ← hs, hx, Int.tmod_eq_emod_of_nonneg (by omega)]; rfl)) | (simp only [*, List.map_append, List.length_append, List.length_cons, List.length_nil, List.map_cons, List.map_nil]; done) | (simp_all; done) | (simp_all; omega))) | refine ev_ret rfl ?_)
  all_goals first
    | exact ⟨by rw [hs, List.take_of_length_le (by omega)], rfl⟩
    | trace_state
theorem s_SumOfI (l : List UInt8) (hl : l.length ≤ 2000000) : Ex (fun m => callF prg m 75 [sS l] []) (iI (sumOf l)) [] := by
  refine ev_is.1 ?_
  (refine U75 (nl := 0) rfl ?_; unfold B75)
  repeat' (first | ((with_reducible refine eL ?_); first | ((with_reducible refine ev_lenm ?_ ?_); · rfl) | refine ev_lenom rfl rfl ?_ | refine ev_lenfm rfl rfl ?_ | refine ev_lenoc rfl rfl rfl ?_ | refine ev_lenc rfl rfl ?_ | refine ev_leno rfl rfl ?_ | refine ev_slen rfl ?_ | refine ev_bd rfl ?_ | refine ev_bd0 rfl ?_) | ((with_reducible refine eV ?_); first | ( (refine ev_bytes rfl rfl rfl rfl ?_)) | ((with_reducible refine ev_conv64 ?_ ?_ ?_ ?_); (· rfl); (· rfl); · omega) | refine ev_bd rfl ?_ | refine ev_bd0 rfl ?_) | ((with_reducible refine eD ?_); first | refine ev_bd rfl ?_ | refine ev_bd0 rfl ?_) | refine ev_ret rfl ?_)
  exact s_SumOfI_L l hl 0 (by omega) _ 0 0 rfl rfl
theorem s_metaOfN (p : TPkg) (h1 : p.files.length ≤ 2000000) (h2 : p.deps.length ≤ 2000000) : Ex (fun m => callF prg2 m 35 [ePkg p] []) (eMeta (metaOf p)) [] := by
  refine ev_is.1 ?_
  (refine PU35 (nl := 0) rfl ?_; unfold B35)
  repeat' (first | ((with_reducible refine eC ?_); first | ((refine ev_call (s_PkgTextN p h1 h2) rfl rfl ?_ rfl ?_); (focus first | exact .inl rfl | exact .inr rfl | (refine .inr ?_; simp [flagC, ownF, hasSl3, hasSl1, SO.hasSl, List.all_map, flatSV, SV.cells, Function.comp_def]; done))) | ((refine ev_call (lift (s_SumOfI (pkgText p) (Nat.le_trans (pkgText_len _) (by decide))) rfl) rfl rfl ?_ rfl ?_); (focus first | exact .inl rfl | exact .inr rfl | (refine .inr ?_; simp [flagC, ownF, hasSl3, hasSl1, SO.hasSl, List.all_map, flatSV, SV.cells, Function.comp_def]; done)))) | ((with_reducible refine eO ?_); first | refine ev_bd rfl ?_ | (refine ev_bdB rfl ?_ ?_ <;> intro h <;> try (exfalso; simp_all; done)) | refine ev_bd0 rfl ?_ | (refine ev_ldm rfl ?_ rfl ?_; (focus omega)) | (refine ev_ldmB rfl ?_ rfl ?_ ?_; (focus omega); (all_goals intro h))) | ((with_reducible refine eD ?_); first | refine ev_bd rfl ?_ | refine ev_bd0 rfl ?_) | ((with_reducible refine ev_dchk ?_ ?_); · intro _; rfl) | refine ev_ret rfl ?_)
  all_goals first | exact ⟨rfl, rfl⟩ | trace_state
end Go.Proofs.YtebaiioejagfoaaGreatDoor

/- impl.IndexOf in the second program. -/
namespace Go.Proofs.YtebaiioejagfoaaGreatDoor
open Go
set_option linter.unusedVariables false
set_option linter.unusedSimpArgs false
set_option maxHeartbeats 4000000
set_option maxRecDepth 100000
theorem s_IndexOfN_L (num til : Int) (s : List TPkg) (hs : s.length ≤ 2000000) (hp0 : PL s) (hok : storeOk s = true) : ∀ i, i ≤ s.length → ∀ (L : List SV) (k : Int) (c : Nat), k = i → L = ((s.take i).map metaOf).map eMeta →
    Ev (fun n => G8_5 (callF prg2 n) (n + 1) 0 (n + 1 - c) [.ptr 0 0, .ptr 1 0, .sl 4 (s.map ePkg), iI s.length, iI k] [.box [iI 0, iI 0, .osl 2], .box [iI num, iI til, .osl 3], .arr false 3 [], .arr false 3 L])
      (Is (.tup [rIndex (indexOf num til s).1, bB (indexOf num til s).2]) [.arr false 3 ((indexOf num til s).1.metas.map eMeta)]) := by
  refine up_ind ?_
  intro i hi ih L k c hk hL
  subst hk
  have hLl : L.length ≤ 2000000 := by rw [hL]; simp only [List.length_map, List.length_take]; omega
  subst hL
  (refine PUG8_5 _ ?_; unfold GB8_5)
  repeat' (first | ((with_reducible refine eB ?_); first | ((with_reducible refine ev_lss ?_ ?_) <;> intro h <;> try (exfalso; omega)) | ((with_reducible refine ev_add ?_ ?_); · omega) | refine ev_bd rfl ?_ | refine ev_bd0 rfl ?_) | ((with_reducible refine eI ?_); first | ((with_reducible refine ev_idx ?_ ?_ ?_); (· rfl); · omega) | (refine ev_idxo rfl rfl ?_ ?_; (· first | omega | (simp only [List.length_cons, List.length_nil, List.length_map, List.length_append]; omega))) | refine ev_bd rfl ?_ | refine ev_bd0 rfl ?_) | ((with_reducible refine eC ?_); first | ((refine ev_call (s_metaOfN (nth s i) (hp0 i).1 (hp0 i).2) rfl rfl ?_ rfl ?_); (focus first | exact .inl rfl | exact .inr rfl | (refine .inr ?_; simp [flagC, ownF, hasSl3, hasSl1, SO.hasSl, List.all_map, flatSV, SV.cells, Function.comp_def]; done))) | ((refine ev_callB (lift (s_IndexOkI num til ((s.take i).map metaOf) (by simp only [List.length_map, List.length_take]; omega)) rfl) rfl rfl ?_ rfl rfl ?_ ?_); (focus first | exact .inl rfl | exact .inr rfl | (refine .inr ?_; simp [flagC, ownF, hasSl3, hasSl1, SO.hasSl, List.all_map, flatSV, SV.cells, Function.comp_def]; done)); (all_goals (intro h)); (all_goals (try (exfalso; simp_all; done))))) | ((with_reducible refine eA ?_); first | (refine ev_app rfl rfl rfl rfl rfl ?_ ?_; · first | decide | (simp only [List.length_append, List.length_cons, List.length_nil, List.length_map, List.length_take, List.length_drop]; omega))) | ((with_reducible refine eK ?_); first | (with_reducible first | refine ev_ct ?_ | refine ev_cf ?_) | ((with_reducible refine ev_cond ?_ ?_) <;> intro h)) | ((with_reducible refine eO ?_); first | refine ev_bd rfl ?_ | (refine ev_bdB rfl ?_ ?_ <;> intro h <;> try (exfalso; simp_all; done)) | refine ev_bd0 rfl ?_ | (refine ev_ldz rfl rfl rfl ?_ ?_ ?_; (· simp); (· first | omega | (simp only [List.length_cons, List.length_nil, List.length_map, List.length_append]; omega)); intro w)) | ((with_reducible refine eD ?_); first | refine ev_bd rfl ?_ | refine ev_bd0 rfl ?_) | ((with_reducible refine ev_dchk ?_ ?_); · intro _; rfl) | ((with_reducible refine eH ?_); first | refine ev_gcB rfl ?_) | (with_reducible first | refine PUL8_5 ?_ | refine PVL8_5 ?_) | ((with_reducible refine ih ?_ _ _ _ ?_ ?_) <;> (first | omega | assumption | ((rw [take_nth (by omega), List.map_append, List.map_append]; rfl)) | (simp only [*, List.map_append, List.length_append, List.length_cons, List.length_nil, List.map_cons, List.map_nil]; done) | (simp_all; done) | (simp_all; omega))) | refine ev_ret rfl ?_)
  · rw [List.take_of_length_le (by omega)] at h ⊢
    exact ⟨by simp [indexOf, hok, h], by simp [indexOf, hok, h]⟩
  · rw [List.take_of_length_le (by omega)] at h
    exact ⟨by simp [indexOf, hok, h, zIndex], by simp [indexOf, hok, h, zIndex]⟩
theorem s_IndexOfN (num til : Int) (s : List TPkg) (hs : s.length ≤ 2000000) (hp0 : PL s) : Ex (fun m => callF prg2 m 8 [iI num, iI til, .sl 4 (s.map ePkg)] []) (.tup [rIndex (indexOf num til s).1, bB (indexOf num til s).2]) [.arr false 3 ((indexOf num til s).1.metas.map eMeta)] := by
  refine ev_is.1 ?_
  (refine PU8 (nl := 0) rfl ?_; unfold B8)
  repeat' (first | ((with_reducible refine eL ?_); first | ((with_reducible refine ev_lenm ?_ ?_); · rfl) | refine ev_lenom rfl rfl ?_ | refine ev_lenoc rfl rfl rfl ?_ | refine ev_lenc rfl rfl ?_ | refine ev_leno rfl rfl ?_ | refine ev_slen rfl ?_ | refine ev_bd rfl ?_ | refine ev_bd0 rfl ?_) | ((with_reducible refine eC ?_); first | ((refine ev_callB (lift (s_StoreOkI s hs hp0) rfl) rfl rfl ?_ rfl rfl ?_ ?_); (focus first | exact .inl rfl | exact .inr rfl | (refine .inr ?_; simp [flagC, ownF, hasSl3, hasSl1, SO.hasSl, List.all_map, flatSV, SV.cells, Function.comp_def]; done)); (all_goals (intro h)); (all_goals (try (exfalso; simp_all; done))))) | ((with_reducible refine eK ?_); first | (with_reducible first | refine ev_ct ?_ | refine ev_cf ?_) | ((with_reducible refine ev_cond ?_ ?_) <;> intro h)) | ((with_reducible refine eO ?_); first | refine ev_bd rfl ?_ | (refine ev_bdB rfl ?_ ?_ <;> intro h <;> try (exfalso; simp_all; done)) | refine ev_bd0 rfl ?_) | ((with_reducible refine eD ?_); first | refine ev_bd rfl ?_ | refine ev_bd0 rfl ?_) | ((with_reducible refine eH ?_); first | refine ev_gcB rfl ?_) | (with_reducible first | refine PUL8_5 ?_ | refine PVL8_5 ?_) | ( exact s_IndexOfN_L num til s hs hp0 (by assumption) 0 (by omega) _ 0 _ rfl (by simp)) | refine ev_ret rfl ?_)
  all_goals first
    | exact ⟨by simp [indexOf, *, zIndex], by simp [indexOf, *, zIndex]⟩
    | trace_state
end Go.Proofs.YtebaiioejagfoaaGreatDoor

/- What the draws of keys and roots give. -/
namespace Go.Proofs.YtebaiioejagfoaaGreatDoor
open Go
set_option linter.unusedVariables false
set_option maxHeartbeats 4000000
set_option linter.unusedSimpArgs false
theorem s_l6Open (l : List Int) (hl : ∀ i, 0 ≤ nth l i ∧ nth l i < 256) : ∃ b, RdOK b ∧ Ex (fun m => callF prg m 27 [.sl 1 (l.map bI)] []) (.ptr 0 0) [rd b 0] := by
  have key : Ev (fun m => callF prg m 27 [.sl 1 (l.map bI)] []) (fun x os => ∃ b, RdOK b ∧ x = .ptr 0 0 ∧ os = [rd b 0]) := by
    (refine U27 (nl := 0) rfl ?_; unfold B27)
    repeat' (first | ((with_reducible refine eB ?_); first | ((with_reducible refine ev_gtr ?_ ?_) <;> intro h <;> try (exfalso; omega)) | refine ev_bd rfl ?_ | refine ev_bd0 rfl ?_) | ((with_reducible refine eL ?_); first | ((with_reducible refine ev_lenm ?_ ?_); · rfl) | refine ev_lenom rfl rfl ?_ | refine ev_lenoc rfl rfl rfl ?_ | refine ev_lenc rfl rfl ?_ | refine ev_leno rfl rfl ?_ | refine ev_slen rfl ?_ | refine ev_bd rfl ?_ | refine ev_bd0 rfl ?_) | ((with_reducible refine eS ?_); first | ((with_reducible first | refine ev_slh ?_ ?_ ?_ | refine ev_sll ?_ ?_ ?_); (· rfl); · omega) | ((first | refine ev_slvh rfl rfl ?_ ?_ | refine ev_slvl rfl rfl ?_ ?_); (· first | omega | (simp only [List.length_cons, List.length_nil, List.length_map, List.length_append]; omega))) | refine ev_bd rfl ?_ | refine ev_bd0 rfl ?_) | ((with_reducible refine eK ?_); first | (with_reducible first | refine ev_ct ?_ | refine ev_cf ?_) | ((with_reducible refine ev_cond ?_ ?_) <;> intro h)) | ((with_reducible refine eD ?_); first | refine ev_bd rfl ?_ | refine ev_bd0 rfl ?_) | ((with_reducible refine UJ27_3 ?_); (unfold JB27_3)) | refine ev_ret rfl ?_)
    · refine ⟨_, ⟨fun i => ?_, ?_⟩, rfl, rfl⟩
      · by_cases hi : i < (l.take (2000 : Int).toNat).length
        · have : nth (l.take (2000 : Int).toNat) i = nth l i := by
            unfold nth
            simp only [List.length_take] at hi
            simp only [List.getD_eq_getElem?_getD, List.getElem?_take]
            rw [if_pos (by omega)]
          rw [this]; exact hl i
        · have : nth (l.take (2000 : Int).toNat) i = 0 := by
            unfold nth
            rw [List.getD_eq_getElem?_getD, List.getElem?_eq_none (by omega)]; rfl
          rw [this]; omega
      · simp only [List.length_take]; omega
    · exact ⟨l, ⟨hl, by omega⟩, rfl, rfl⟩
  obtain ⟨x, os, ⟨b, hb, rfl, rfl⟩, he⟩ := key
  exact ⟨b, hb, he⟩
end Go.Proofs.YtebaiioejagfoaaGreatDoor

/- Drawn packages, some of them spoilt. -/
namespace Go.Proofs.YtebaiioejagfoaaGreatDoor
open Go
set_option linter.unusedVariables false
set_option linter.unusedSimpArgs false
set_option maxHeartbeats 40000000
def QAny (b : List Int) (p : Int) : SV → List SO → Prop := fun x os => ∃ (t : TPkg) (q : Int), x = rPkg t 1 2 ∧ os = [rd b q, .arr false 2 (t.files.map eFile), .arr false 2 (t.deps.map eDep)] ∧ t.files.length ≤ 4 ∧ t.deps.length ≤ 4 ∧ p ≤ q ∧ q ≤ p + 40
theorem s_l71Any {b : List Int} (hb : RdOK b) {p : Int} (hp : 0 ≤ p ∧ p < 600000000) : Ev (fun m => callF prg m 68 [.ptr 0 0] [rd b p]) (QAny b p) := by
  (refine U68 (nl := 1) rfl ?_; unfold B68)
  repeat' (first | ((with_reducible refine eB ?_); first | ((with_reducible refine ev_eql ?_ ?_) <;> intro h <;> try (exfalso; omega)) | ((with_reducible refine ev_add ?_ ?_); · omega) | refine ev_bd rfl ?_ | refine ev_bd0 rfl ?_) | ((with_reducible refine eI ?_); first | ((with_reducible refine ev_idxn ?_ ?_ ?_); (· rfl); · omega) | (refine ev_idxon rfl rfl ?_ ?_; (· first | omega | (simp only [List.length_cons, List.length_nil, List.length_map, List.length_append]; omega))) | (refine ev_idxfn rfl rfl ?_ ?_; (focus omega)) | ((with_reducible refine ev_idx ?_ ?_ ?_); (· rfl); · omega) | (refine ev_idxo rfl rfl ?_ ?_; (· first | omega | (simp only [List.length_cons, List.length_nil, List.length_map, List.length_append]; omega))) | (refine ev_idxf rfl rfl ?_ ?_; (focus omega)) | refine ev_bd rfl ?_ | refine ev_bd0 rfl ?_) | ((with_reducible refine eC ?_); first | ((refine ev_callN (s_pick hb (by omega) _ (by omega)) rfl rfl ?_ (fun _ => rfl) ?_); (· first | exact .inl rfl | exact .inr (fun _ => rfl)); (first | (have q0 := z3; clear q0; intro z4 hz4) | (have q0 := z2; clear q0; intro z3 hz3) | (have q0 := z; clear q0; intro z2 hz2) | (intro z hz))) | ((refine ev_callE (s_l71Pkg hb (by omega) _ _) rfl rfl ?_); ((rintro _ _ ⟨t, q, rfl, rfl, hf, hd, hq1, hq2⟩) <;> (first | (refine ev_post ?_ rfl ?_; (focus first | exact .inl rfl | exact .inr rfl | (refine .inr ?_; simp [flagC, ownF, hasSl3, hasSl1, SO.hasSl, List.all_map, flatSV, SV.cells, Function.comp_def]; done))) | (refine ev_postF ?_ rfl ?_; (focus first | rfl | (simp [flagC, ownF, hasSl3, hasSl1, SO.hasSl, List.all_map, flatSV, SV.cells, Function.comp_def]; done))))))) | ((with_reducible refine eA ?_); first | (refine ev_app rfl rfl rfl rfl rfl ?_ ?_; · first | decide | (simp only [List.length_append, List.length_cons, List.length_nil, List.length_map, List.length_take, List.length_drop]; omega))) | ((with_reducible refine eK ?_); first | (with_reducible first | refine ev_ct ?_ | refine ev_cf ?_) | ((with_reducible refine ev_cond ?_ ?_) <;> intro h)) | ((with_reducible refine eO ?_); first | refine ev_bd rfl ?_ | (refine ev_bdB rfl ?_ ?_ <;> intro h <;> try (exfalso; simp_all; done)) | refine ev_bd0 rfl ?_ | (refine ev_ldm rfl ?_ rfl ?_; (focus omega)) | (refine ev_ldmB rfl ?_ rfl ?_ ?_; (focus omega); (all_goals intro h)) | (refine ev_ldz rfl rfl rfl ?_ ?_ ?_; (· simp); (· first | omega | (simp only [List.length_cons, List.length_nil, List.length_map, List.length_append]; omega)); intro w)) | ((with_reducible refine eD ?_); first | refine ev_bd rfl ?_ | refine ev_bd0 rfl ?_) | ((with_reducible refine ev_dchk ?_ ?_); · intro _; rfl) | ((with_reducible refine UJ68_11 ?_); (unfold JB68_11)) | refine ev_ret rfl ?_)
  all_goals first
    | exact ⟨⟨_, _, t.files, t.deps⟩, _, rfl, rfl, by show t.files.length ≤ 4; omega, by show t.deps.length ≤ 4; omega, by omega, by omega⟩
    | exact ⟨⟨t.name, w, t.files, t.deps⟩, _, rfl, rfl, by show t.files.length ≤ 4; omega, by show t.deps.length ≤ 4; omega, by omega, by omega⟩
    | (rename_i u1 hu1 u2 hu2; exact ⟨⟨_, _, t.files ++ [⟨u2, z4⟩], t.deps⟩, _, rfl, by rw [List.map_append]; rfl, by simp only [List.length_append, List.length_cons, List.length_nil]; omega, by show t.deps.length ≤ 4; omega, by omega, by omega⟩)
    | (rename_i u1 hu1 u2 hu2; exact ⟨⟨_, _, t.files, t.deps ++ [⟨u2, z4⟩]⟩, _, rfl, by rw [List.map_append]; rfl, by show t.files.length ≤ 4; omega, by simp only [List.length_append, List.length_cons, List.length_nil]; omega, by omega, by omega⟩)
    | trace_state
def QOff (b : List Int) (p : Int) : SV → List SO → Prop := fun x os => ∃ (s : List TPkg) (q : Int), x = .osl 1 ∧ os = [rd b q, .arr false 4 (s.map ePkg)] ∧ s.length ≤ 9 ∧ smalls s ∧ p ≤ q ∧ q ≤ p + 400
theorem smalls_app {s : List TPkg} {t : TPkg} (hs : smalls s) (h : small t) : smalls (s ++ [t]) := by
  intro x hx
  rcases List.mem_append.1 hx with h1 | h1
  · exact hs x h1
  · rw [List.mem_singleton.1 h1]; exact h
theorem smalls_set {s : List TPkg} {t : TPkg} {i : Nat} (hs : smalls s) (h : small t) : smalls (s.set i t) := by
  intro x hx
  rcases List.mem_or_eq_of_mem_set hx with h1 | h1
  · exact hs x h1
  · rw [h1]; exact h
theorem s_l71Off {b : List Int} (hb : RdOK b) {p : Int} (hp : 0 ≤ p ∧ p < 500000000) : Ev (fun m => callF prg m 29 [.ptr 0 0] [rd b p]) (QOff b p) := by
  (refine U29 (nl := 1) rfl ?_; unfold B29)
  repeat' (first | ((with_reducible refine eB ?_); first | ((with_reducible first | refine ev_gtr ?_ ?_ | refine ev_eql ?_ ?_) <;> intro h <;> try (exfalso; omega)) | refine ev_bd rfl ?_ | refine ev_bd0 rfl ?_) | ((with_reducible refine eL ?_); first | ((with_reducible refine ev_lenm ?_ ?_); · rfl) | refine ev_lenom rfl rfl ?_ | refine ev_lenfm rfl rfl ?_ | refine ev_lenoc rfl rfl rfl ?_ | refine ev_lenc rfl rfl ?_ | refine ev_leno rfl rfl ?_ | refine ev_slen rfl ?_ | refine ev_bd rfl ?_ | refine ev_bd0 rfl ?_) | ((with_reducible refine eI ?_); first | ((with_reducible refine ev_idxn ?_ ?_ ?_); (· rfl); · omega) | (refine ev_idxon rfl rfl ?_ ?_; (· first | omega | (simp only [List.length_cons, List.length_nil, List.length_map, List.length_append]; omega))) | (refine ev_idxfn rfl rfl ?_ ?_; (focus omega)) | ((with_reducible refine ev_idx ?_ ?_ ?_); (· rfl); · omega) | (refine ev_idxo rfl rfl ?_ ?_; (· first | omega | (simp only [List.length_cons, List.length_nil, List.length_map, List.length_append]; omega))) | (refine ev_idxf rfl rfl ?_ ?_; (focus omega)) | refine ev_bd rfl ?_ | refine ev_bd0 rfl ?_) | ((with_reducible refine eC ?_); first | ((refine ev_callN (s_pick hb (by omega) _ (by omega)) rfl rfl ?_ (fun _ => rfl) ?_); (· first | exact .inl rfl | exact .inr (fun _ => rfl)); (first | (have q0 := z3; clear q0; intro z4 hz4) | (have q0 := z2; clear q0; intro z3 hz3) | (have q0 := z; clear q0; intro z2 hz2) | (intro z hz))) | ((refine ev_callE (s_l71Pkgs hb (by omega)) rfl rfl ?_); ((rintro _ _ ⟨s, q, rfl, rfl, hs, hsm, hq1, hq2⟩) <;> (first | (refine ev_post ?_ rfl ?_; (focus first | exact .inl rfl | exact .inr rfl | (refine .inr ?_; simp [flagC, ownF, hasSl3, hasSl1, SO.hasSl, List.all_map, flatSV, SV.cells, Function.comp_def]; done))) | (refine ev_postF ?_ rfl ?_; (focus first | rfl | (simp [flagC, ownF, hasSl3, hasSl1, SO.hasSl, List.all_map, flatSV, SV.cells, Function.comp_def]; done)))))) | ((refine ev_callE (s_l71Any hb (by omega)) rfl rfl ?_); ((rintro _ _ ⟨t, q', rfl, rfl, hf, hd, hq3, hq4⟩) <;> (first | (refine ev_post ?_ rfl ?_; (focus first | exact .inl rfl | exact .inr rfl | (refine .inr ?_; simp [flagC, ownF, hasSl3, hasSl1, SO.hasSl, List.all_map, flatSV, SV.cells, Function.comp_def]; done))) | (refine ev_postF ?_ rfl ?_; (focus first | rfl | (simp [flagC, ownF, hasSl3, hasSl1, SO.hasSl, List.all_map, flatSV, SV.cells, Function.comp_def]; done))))))) | ((with_reducible refine eA ?_); first | (refine ev_app rfl rfl rfl rfl rfl ?_ ?_; · first | decide | (simp only [List.length_append, List.length_cons, List.length_nil, List.length_map, List.length_take, List.length_drop]; omega))) | ((with_reducible refine eK ?_); first | (with_reducible first | refine ev_ct ?_ | refine ev_cf ?_) | ((with_reducible refine ev_cond ?_ ?_) <;> intro h)) | ((with_reducible refine eD ?_); first | refine ev_bd rfl ?_ | refine ev_bd0 rfl ?_ | ( (refine ev_sto (f := ePkg) (a := t) rfl rfl rfl rfl rfl rfl rfl rfl ?_ rfl ?_; (focus omega)))) | ((with_reducible refine UJ29_8 ?_); (unfold JB29_8)) | refine ev_ret rfl ?_)
  all_goals first
    | exact ⟨s, _, rfl, rfl, by omega, hsm, by omega, by omega⟩
    | exact ⟨s ++ [t], _, rfl, by rw [List.map_append]; rfl, by simp only [List.length_append, List.length_cons, List.length_nil]; omega, smalls_app hsm ⟨by omega, by omega⟩, by omega, by omega⟩
    | exact ⟨_, _, rfl, rfl, by rw [List.length_set]; omega, smalls_set hsm ⟨by omega, by omega⟩, by omega, by omega⟩
    | trace_state
end Go.Proofs.YtebaiioejagfoaaGreatDoor

/- What holds of the newest in a store. -/
namespace Go.Proofs.YtebaiioejagfoaaGreatDoor
open Go
set_option linter.unusedVariables false
set_option linter.unusedSimpArgs false
theorem storeOk_iff {s : List TPkg} : storeOk s = true ↔ ∀ i, i < s.length → pkgAt s i := by simp [storeOk]
theorem store_grow {s : List TPkg} (h : storeOk s = true) : ∀ j i, i < j → j < s.length → pless (nth s i) (nth s j) := by
  intro j
  induction j with
  | zero => intro i hi; omega
  | succ j ih =>
    intro i hi hj
    have h1 := (storeOk_iff.1 h (j + 1) hj).2 (by omega)
    simp only [Nat.add_sub_cancel] at h1
    by_cases e : i = j
    · subst e; exact h1
    · have := ih i (by omega) (by omega)
      unfold pless at *; omega
end Go.Proofs.YtebaiioejagfoaaGreatDoor

/- impl.IndexHas at the text of a package; what is drawn for the laws of indexes. -/
namespace Go.Proofs.YtebaiioejagfoaaGreatDoor
open Go
set_option linter.unusedVariables false
set_option linter.unusedSimpArgs false
set_option maxHeartbeats 4000000
set_option maxRecDepth 100000
theorem s_IxTold_L (ms : List TMeta) (hm : ms.length ≤ 2000000) (m : TMeta) : ∀ i, i ≤ ms.length → (∀ j, j < i → ¬ m = nth ms j) → ∀ (k : Int) (c : Nat), k = i →
    Ev (fun n => L80_2 (callF prg n) (n + 1) 0 (n + 1 - c) (.sl 3 (ms.map eMeta)) (.ptr 0 0) (iI ms.length) (iI k) [.box [iI m.name, iI m.ver, iI m.sum]]) (fun y os => ∃ z : Int, y = iI z ∧ os = [] ∧ (0 ≤ z ↔ m ∈ ms)) := by
  refine up_ind ?_
  intro i hi ih hp k c hk
  subst hk
  (refine UL80_2 ?_; unfold LB80_2)
  repeat' (first | ((with_reducible refine eB ?_); first | ((with_reducible first | refine ev_lss ?_ ?_ | refine ev_eql ?_ ?_) <;> intro h <;> try (exfalso; omega)) | ((with_reducible refine ev_add ?_ ?_); · omega) | ((with_reducible first | refine ev_eql3 ?_ ?_ ?_ | refine ev_neq3 ?_ ?_ ?_ | refine ev_eql2 ?_ ?_ ?_ | refine ev_neq2 ?_ ?_ ?_); (· rfl); all_goals intro h) | refine ev_bd rfl ?_ | refine ev_bd0 rfl ?_) | ((with_reducible refine eI ?_); first | ((with_reducible refine ev_idxn ?_ ?_ ?_); (· rfl); · omega) | (refine ev_idxon rfl rfl ?_ ?_; (· first | omega | (simp only [List.length_cons, List.length_nil, List.length_map, List.length_append]; omega))) | (refine ev_idxfn rfl rfl ?_ ?_; (focus omega)) | ((with_reducible refine ev_idx ?_ ?_ ?_); (· rfl); · omega) | (refine ev_idxo rfl rfl ?_ ?_; (· first | omega | (simp only [List.length_cons, List.length_nil, List.length_map, List.length_append]; omega))) | (refine ev_idxf rfl rfl ?_ ?_; (focus omega)) | refine ev_bd rfl ?_ | refine ev_bd0 rfl ?_) | ((with_reducible refine eK ?_); first | (with_reducible first | refine ev_ct ?_ | refine ev_cf ?_) | ((with_reducible refine ev_cond ?_ ?_) <;> intro h)) | ((with_reducible refine eO ?_); first | refine ev_bd rfl ?_ | (refine ev_bdB rfl ?_ ?_ <;> intro h <;> try (exfalso; simp_all; done)) | refine ev_bd0 rfl ?_ | (refine ev_ldm rfl ?_ rfl ?_; (focus omega)) | (refine ev_ldmB rfl ?_ rfl ?_ ?_; (focus omega); (all_goals intro h))) | ((with_reducible refine eD ?_); first | refine ev_bd rfl ?_ | refine ev_bd0 rfl ?_) | ((with_reducible refine ih ?_ (all_step hp ?_) _ _ ?_) <;> (first | omega | assumption | ((intro e; apply h; rw [e]; exact ⟨rfl, rfl, rfl⟩)) | (simp only [*, List.map_append, List.length_append, List.length_cons, List.length_nil, List.map_cons, List.map_nil]; done) | (simp_all; done) | (simp_all; omega))) | refine ev_ret rfl ?_)
  · exact ⟨_, rfl, rfl, ⟨fun _ => by rw [TMeta.eq3 h]; exact nth_mem (l := ms) (k := i) (by omega), fun _ => by omega⟩⟩
  · refine ⟨_, rfl, rfl, ⟨fun h9 => by omega, fun h9 => ?_⟩⟩
    obtain ⟨j, hj, e⟩ := mem_nth h9
    exact absurd e.symm (hp j (by omega))
theorem s_IxTold (ms : List TMeta) (hm : ms.length ≤ 2000000) (m : TMeta) : ∃ z : Int, (0 ≤ z ↔ m ∈ ms) ∧ Ex (fun n => callF prg n 80 [.sl 3 (ms.map eMeta), eMeta m] []) (iI z) [] := by
  have key : Ev (fun n => callF prg n 80 [.sl 3 (ms.map eMeta), eMeta m] []) (fun y os => ∃ z : Int, y = iI z ∧ os = [] ∧ (0 ≤ z ↔ m ∈ ms)) := by
    (refine U80 (nl := 0) rfl ?_; unfold B80)
    repeat' (first | ((with_reducible refine eL ?_); first | ((with_reducible refine ev_lenm ?_ ?_); · rfl) | refine ev_lenom rfl rfl ?_ | refine ev_lenfm rfl rfl ?_ | refine ev_lenoc rfl rfl rfl ?_ | refine ev_lenc rfl rfl ?_ | refine ev_leno rfl rfl ?_ | refine ev_slen rfl ?_ | refine ev_bd rfl ?_ | refine ev_bd0 rfl ?_) | ((with_reducible refine eD ?_); first | refine ev_bd rfl ?_ | refine ev_bd0 rfl ?_) | ( exact s_IxTold_L ms hm m 0 (by omega) (fun j hj => by omega) 0 0 rfl) | refine ev_ret rfl ?_)
  obtain ⟨_, _, ⟨z, rfl, rfl, hz⟩, he⟩ := key
  exact ⟨z, hz, he⟩
theorem s_CtTold (ms : List TMeta) (hm : ms.length ≤ 2000000) (m : TMeta) : Ex (fun n => callF prg n 38 [.sl 3 (ms.map eMeta), eMeta m] []) (bB (decide (m ∈ ms))) [] := by
  refine ev_is.1 ?_
  (refine U38 (nl := 0) rfl ?_; unfold B38)
  repeat' (first | ((with_reducible refine eB ?_); first | ((with_reducible refine ev_geq ?_ ?_) <;> intro h <;> try (exfalso; omega)) | refine ev_bd rfl ?_ | refine ev_bd0 rfl ?_) | ((with_reducible refine eC ?_); first | ((refine ev_callN (s_IxTold ms hm m) rfl rfl ?_ (fun _ => rfl) ?_); (· first | exact .inl rfl | exact .inr (fun _ => rfl)); (first | (have q0 := z3; clear q0; intro z4 hz4) | (have q0 := z2; clear q0; intro z3 hz3) | (have q0 := z; clear q0; intro z2 hz2) | (intro z hz)))) | ((with_reducible refine eO ?_); first | refine ev_bd rfl ?_ | (refine ev_bdB rfl ?_ ?_ <;> intro h <;> try (exfalso; simp_all; done)) | refine ev_bd0 rfl ?_ | (refine ev_ldm rfl ?_ rfl ?_; (focus omega)) | (refine ev_ldmB rfl ?_ rfl ?_ ?_; (focus omega); (all_goals intro h))) | ((with_reducible refine eD ?_); first | refine ev_bd rfl ?_ | refine ev_bd0 rfl ?_) | refine ev_ret rfl ?_)
  all_goals exact ⟨congrArg bB (by simp [← hz]; omega), rfl⟩
theorem PE10 (n : Nat) (x0 x1 : SV) (os : List SO) : callF prg2 (n + 1) 10 [x0, x1] os = X10 (callF prg2 n) (n + 1) os.length x0 x1 os := by kernel_rfl
theorem PU10 {Q : SV → List SO → Prop} {x0 x1 : SV} {os : List SO} {nl : Nat} (hnl : os.length = nl) (h : Ev (fun n => B10 (callF prg2 n) (n + 1) nl x0 x1 os) Q) : Ev (fun n => callF prg2 n 10 [x0, x1] os) Q := by subst hnl; exact ev_fun (fun n => (PE10 n _ _ _).trans (X10_s _ _ _ _ _ _)) h
theorem s_HasYes (x : TIndex) (hx : x.metas.length ≤ 2000000) (p : TPkg) (hp : pkgOk p = true) (h1 : indexOk x.num x.til x.metas = true) (h2 : metaOf p ∈ x.metas) :
    Ex (fun m => callF prg2 m 10 [aIndex x, sS (pkgText p)] []) (.tup [ePkg p, bB true]) [] := by
  refine ev_is.1 ?_
  obtain ⟨h3, h4, -, -⟩ := pkg_digs hp
  (refine PU10 (nl := 0) rfl ?_; unfold B10)
  repeat' (first | ((with_reducible refine eG ?_); first | (with_reducible first | refine ev_gtt ?_ | refine ev_gff ?_ | refine ev_gtf ?_ | refine ev_gft ?_ | refine ev_gu ?_) | refine ev_bd rfl ?_ | refine ev_bd0 rfl ?_ | ((with_reducible refine ev_gB ?_ ?_) <;> intro h)) | ((with_reducible refine eC ?_); first | ((refine ev_call (s_PkgReadN p hp) rfl rfl ?_ rfl ?_); (focus first | exact .inl rfl | exact .inr rfl | (refine .inr ?_; simp [flagC, ownF, hasSl3, hasSl1, SO.hasSl, List.all_map, flatSV, SV.cells, Function.comp_def]; done))) | ((refine ev_callB (lift (s_IndexOkI x.num x.til x.metas (by omega)) rfl) rfl rfl ?_ rfl rfl ?_ ?_); (focus first | exact .inl rfl | exact .inr rfl | (refine .inr ?_; simp [flagC, ownF, hasSl3, hasSl1, SO.hasSl, List.all_map, flatSV, SV.cells, Function.comp_def]; done)); (all_goals (intro h)); (all_goals (try (exfalso; simp_all; done)))) | ((refine ev_call (s_metaOfN p (by omega) (by omega)) rfl rfl ?_ rfl ?_); (focus first | exact .inl rfl | exact .inr rfl | (refine .inr ?_; simp [flagC, ownF, hasSl3, hasSl1, SO.hasSl, List.all_map, flatSV, SV.cells, Function.comp_def]; done))) | ((refine ev_callD (lift (s_CtTold x.metas hx (metaOf p)) rfl) rfl rfl ?_ rfl rfl ?_ ?_); (focus first | exact .inl rfl | exact .inr rfl | (refine .inr ?_; simp [flagC, ownF, hasSl3, hasSl1, SO.hasSl, List.all_map, flatSV, SV.cells, Function.comp_def]; done)); (all_goals (intro h)); (all_goals (try (exfalso; first | omega | exact h rfl | exact h ⟨rfl, rfl, rfl⟩))))) | ((with_reducible refine eK ?_); first | (with_reducible first | refine ev_ct ?_ | refine ev_cf ?_) | ((with_reducible refine ev_cond ?_ ?_) <;> intro h)) | ((with_reducible refine eO ?_); first | refine ev_bd rfl ?_ | (refine ev_bdB rfl ?_ ?_ <;> intro h <;> try (exfalso; simp_all; done)) | refine ev_bd0 rfl ?_ | (refine ev_ldm rfl ?_ rfl ?_; (focus omega)) | (refine ev_ldmB rfl ?_ rfl ?_ ?_; (focus omega); (all_goals intro h))) | ((with_reducible refine eD ?_); first | refine ev_bd rfl ?_ | refine ev_bd0 rfl ?_ | ((with_reducible refine ev_pickB ?_ ?_) <;> intro h)) | ((with_reducible refine ev_dchk ?_ ?_); · intro _; rfl) | refine ev_ret rfl ?_)
  all_goals first
    | exact ⟨rfl, rfl⟩
    | (exfalso; simp_all; done)
    | trace_state
theorem s_HasNo (x : TIndex) (hx : x.metas.length ≤ 2000000) (p : TPkg) (hp : pkgOk p = true) (h2 : ¬ metaOf p ∈ x.metas) :
    Ex (fun m => callF prg2 m 10 [aIndex x, sS (pkgText p)] []) (.tup [.ag [iI 0, iI 0, .osl 0, .osl 1], bB false]) [.arr false 2 [], .arr false 2 []] := by
  refine ev_is.1 ?_
  obtain ⟨h3, h4, -, -⟩ := pkg_digs hp
  (refine PU10 (nl := 0) rfl ?_; unfold B10)
  repeat' (first | ((with_reducible refine eG ?_); first | (with_reducible first | refine ev_gtt ?_ | refine ev_gff ?_ | refine ev_gtf ?_ | refine ev_gft ?_ | refine ev_gu ?_) | refine ev_bd rfl ?_ | refine ev_bd0 rfl ?_ | ((with_reducible refine ev_gB ?_ ?_) <;> intro h)) | ((with_reducible refine eC ?_); first | ((refine ev_call (s_PkgReadN p hp) rfl rfl ?_ rfl ?_); (focus first | exact .inl rfl | exact .inr rfl | (refine .inr ?_; simp [flagC, ownF, hasSl3, hasSl1, SO.hasSl, List.all_map, flatSV, SV.cells, Function.comp_def]; done))) | ((refine ev_callB (lift (s_IndexOkI x.num x.til x.metas (by omega)) rfl) rfl rfl ?_ rfl rfl ?_ ?_); (focus first | exact .inl rfl | exact .inr rfl | (refine .inr ?_; simp [flagC, ownF, hasSl3, hasSl1, SO.hasSl, List.all_map, flatSV, SV.cells, Function.comp_def]; done)); (all_goals (intro h)); (all_goals (try (exfalso; simp_all; done)))) | ((refine ev_call (s_metaOfN p (by omega) (by omega)) rfl rfl ?_ rfl ?_); (focus first | exact .inl rfl | exact .inr rfl | (refine .inr ?_; simp [flagC, ownF, hasSl3, hasSl1, SO.hasSl, List.all_map, flatSV, SV.cells, Function.comp_def]; done))) | ((refine ev_callD (lift (s_CtTold x.metas hx (metaOf p)) rfl) rfl rfl ?_ rfl rfl ?_ ?_); (focus first | exact .inl rfl | exact .inr rfl | (refine .inr ?_; simp [flagC, ownF, hasSl3, hasSl1, SO.hasSl, List.all_map, flatSV, SV.cells, Function.comp_def]; done)); (all_goals (intro h)); (all_goals (try (exfalso; first | omega | exact h rfl | exact h ⟨rfl, rfl, rfl⟩))))) | ((with_reducible refine eK ?_); first | (with_reducible first | refine ev_ct ?_ | refine ev_cf ?_) | ((with_reducible refine ev_cond ?_ ?_) <;> intro h)) | ((with_reducible refine eO ?_); first | refine ev_bd rfl ?_ | (refine ev_bdB rfl ?_ ?_ <;> intro h <;> try (exfalso; simp_all; done)) | refine ev_bd0 rfl ?_ | (refine ev_ldm rfl ?_ rfl ?_; (focus omega)) | (refine ev_ldmB rfl ?_ rfl ?_ ?_; (focus omega); (all_goals intro h))) | ((with_reducible refine eD ?_); first | refine ev_bd rfl ?_ | refine ev_bd0 rfl ?_ | ((with_reducible refine ev_pickB ?_ ?_) <;> intro h)) | ((with_reducible refine ev_dchk ?_ ?_); · intro _; rfl) | refine ev_ret rfl ?_)
  all_goals first
    | exact ⟨rfl, rfl⟩
    | (exfalso; simp_all; done)
    | trace_state
def QDIO : SV → List SO → Prop := fun x os => ∃ (num til : Int) (s : List TPkg), x = .tup [iI num, iI til, .sl 4 (s.map ePkg)] ∧ os = [] ∧ s.length ≤ 9 ∧ smalls s
theorem s_DrawIndexOf (l : List Int) (hl : ∀ i, 0 ≤ nth l i ∧ nth l i < 256) : Ev (fun m => callF prg m 6 [.sl 1 (l.map bI)] []) QDIO := by
  obtain ⟨b, hb, hopen⟩ := s_l6Open l hl
  (refine U6 (nl := 0) rfl ?_; unfold B6)
  repeat' (first | ((with_reducible refine eB ?_); first | ((with_reducible first | refine ev_add ?_ ?_ | refine ev_mul ?_ ?_); · omega) | ((with_reducible refine ev_quo ?_ ?_ ?_); (· omega); (· omega); intro x hx hx0 hx1) | refine ev_bd rfl ?_ | refine ev_bd0 rfl ?_) | ((with_reducible refine eC ?_); first | ((refine ev_call (hopen ..) rfl rfl ?_ rfl ?_); (focus first | exact .inl rfl | exact .inr rfl | (refine .inr ?_; simp [flagC, ownF, hasSl3, hasSl1, SO.hasSl, List.all_map, flatSV, SV.cells, Function.comp_def]; done))) | ((refine ev_callN (s_pick hb (by omega) _ (by omega)) rfl rfl ?_ (fun _ => rfl) ?_); (· first | exact .inl rfl | exact .inr (fun _ => rfl)); (first | (have q0 := z3; clear q0; intro z4 hz4) | (have q0 := z2; clear q0; intro z3 hz3) | (have q0 := z; clear q0; intro z2 hz2) | (intro z hz))) | ((refine ev_callE (s_l71Off hb (by omega)) rfl rfl ?_); ((rintro _ _ ⟨s, q, rfl, rfl, hs, hsm, hq1, hq2⟩) <;> (first | (refine ev_post ?_ rfl ?_; (focus first | exact .inl rfl | exact .inr rfl | (refine .inr ?_; simp [flagC, ownF, hasSl3, hasSl1, SO.hasSl, List.all_map, flatSV, SV.cells, Function.comp_def]; done))) | (refine ev_postF ?_ rfl ?_; (focus first | rfl | (simp [flagC, ownF, hasSl3, hasSl1, SO.hasSl, List.all_map, flatSV, SV.cells, Function.comp_def]; done))))))) | ((with_reducible refine eD ?_); first | refine ev_bd rfl ?_ | refine ev_bd0 rfl ?_) | refine ev_ret rfl ?_)
  all_goals first | exact ⟨_, _, s, rfl, rfl, hs, hsm⟩ | trace_state
end Go.Proofs.YtebaiioejagfoaaGreatDoor

/- An index that tells of one less. -/
namespace Go.Proofs.YtebaiioejagfoaaGreatDoor
open Go
set_option linter.unusedVariables false
set_option linter.unusedSimpArgs false
theorem pw_at {α : Type} [Inhabited α] {R : α → α → Prop} {l : List α} : l.Pairwise R ↔ ∀ i j, i < j → j < l.length → R (nth l i) (nth l j) := by
  rw [List.pairwise_iff_getElem]
  have key : ∀ i (h : i < l.length), l[i] = nth l i := fun i h => by
    have := get_nth h
    rw [List.getElem?_eq_getElem h] at this
    exact Option.some.inj this
  constructor
  · intro h i j hij hj
    have := h i j (by omega) hj hij
    rwa [key, key] at this
  · intro h i j hi hj hij
    rw [key, key]; exact h i j hij hj
theorem erase_mem {α : Type} [Inhabited α] {s : List α} {k : Nat} {p : α} : p ∈ s.eraseIdx k ↔ ∃ i, i < s.length ∧ i ≠ k ∧ nth s i = p := by
  rw [List.mem_eraseIdx_iff_getElem?]
  constructor
  · rintro ⟨i, h1, h2⟩
    have hi : i < s.length := by
      by_cases h : i < s.length
      · exact h
      · rw [List.getElem?_eq_none (by omega)] at h2; cases h2
    rw [get_nth hi] at h2
    exact ⟨i, hi, h1, Option.some.inj h2⟩
  · rintro ⟨i, hi, h1, rfl⟩
    exact ⟨i, h1, get_nth hi⟩
def metaIn (m : TMeta) : Prop := (1 ≤ m.name ∧ m.name ≤ 4) ∧ (1 ≤ m.ver ∧ m.ver ≤ 5) ∧ (0 ≤ m.sum ∧ m.sum ≤ 9972)
theorem metas_iff {l : List TMeta} : metasOk l = true ↔ (∀ m, m ∈ l → metaIn m) ∧ l.Pairwise mless := by
  unfold metasOk
  rw [decide_eq_true_iff]
  constructor
  · intro h
    refine ⟨fun m hm => ?_, pw_at.2 fun i j => ?_⟩
    · obtain ⟨i, hi, rfl⟩ := mem_nth hm
      have := h i hi
      unfold metaAt at this; unfold metaIn; omega
    · induction j with
      | zero => intro hi; omega
      | succ j ih =>
        intro hi hj
        have h1 := (h (j + 1) hj).2.2.2 (by omega)
        simp only [Nat.add_sub_cancel] at h1
        by_cases e : i = j
        · subst e; exact h1
        · have := ih (by omega) (by omega); unfold mless at *; omega
  · rintro ⟨h1, h2⟩ i hi
    have h3 := h1 _ (nth_mem hi)
    unfold metaIn at h3
    exact ⟨h3.1, h3.2.1, h3.2.2, fun h0 => pw_at.1 h2 _ _ (by omega) hi⟩
theorem index_less {num til : Int} {l : List TMeta} {k : Nat} (h : indexOk num til l = true) : indexOk num til (l.eraseIdx k) = true := by
  obtain ⟨h1, h2, h3, h4⟩ := indexOk_iff.1 h
  have hsub : (l.eraseIdx k).Sublist l := List.eraseIdx_sublist ..
  obtain ⟨h5, h6⟩ := metas_iff.1 h4
  exact indexOk_iff.2 ⟨h1, h2, Nat.le_trans hsub.length_le h3, metas_iff.2 ⟨fun m hm => h5 m (hsub.subset hm), h6.sublist hsub⟩⟩
theorem nth_map2 {α β : Type} [Inhabited α] [Inhabited β] {f : α → β} {l : List α} {i : Nat} (hi : i < l.length) : nth (l.map f) i = f (nth l i) := by
  have h := get_nth (l := l.map f) (i := i) (by rw [List.length_map]; exact hi)
  rw [List.getElem?_map, get_nth hi] at h
  exact (Option.some.inj h).symm
theorem told_less {s : List TPkg} (hs : storeOk s = true) {k i : Nat} (hi : i < s.length) : metaOf (nth s i) ∈ (s.map metaOf).eraseIdx k ↔ i ≠ k := by
  rw [erase_mem]
  constructor
  · rintro ⟨j, hj, h1, h2⟩ rfl
    rw [List.length_map] at hj
    rw [nth_map2 hj] at h2
    apply h1
    have h3 : (nth s j).name = (nth s i).name := congrArg TMeta.name h2
    have h4 : (nth s j).ver = (nth s i).ver := congrArg TMeta.ver h2
    by_cases h5 : i < j
    · have := store_grow hs j i h5 hj
      unfold pless at this; omega
    · by_cases h6 : j < i
      · have := store_grow hs i j h6 hi
        unfold pless at this; omega
      · omega
  · intro h
    exact ⟨i, by rw [List.length_map]; exact hi, h, nth_map2 hi⟩
theorem erase_cells {α : Type} {f : α → SV} (M : List α) (k : Nat) : [] ++ ((M.take (k : Int).toNat).drop 0).map f ++ ((M.take (M.map f).length).drop ((k : Int) + 1).toNat).map f = (M.eraseIdx k).map f := by
  rw [List.eraseIdx_eq_take_drop_succ, List.length_map, List.take_length, show ((k : Int) + 1).toNat = k + 1 by omega, List.map_append, Int.toNat_natCast]
  rfl
end Go.Proofs.YtebaiioejagfoaaGreatDoor
