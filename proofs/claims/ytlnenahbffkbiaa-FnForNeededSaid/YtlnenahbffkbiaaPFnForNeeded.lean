/- The law FnForNeeded, in S: S says yes, whatever the bytes. -/
import Derived.Test.YtlnenahbffkbiaaV34
namespace Go.Proofs.Ytlnenahbffkbiaa
open Go
set_option linter.unusedVariables false
set_option linter.unusedSimpArgs false
set_option maxHeartbeats 40000000
set_option maxRecDepth 100000
abbrev osN (r : List TPkg) (p : TPkg) : List SO := [.arr false 4 (r.map ePkg), .arr false 2 (p.files.map eFile), .arr false 2 (p.deps.map eDep), .arr false 2 [], .arr false 2 [], .box [iI p.name, iI p.ver, .osl 1, .osl 2]]
def Later (r : List TPkg) (x : Int) (P : Nat → Nat → Prop) : Prop := ∃ k0 d0, P k0 d0 ∧ k0 < r.length ∧ d0 < (nth r k0).deps.length ∧ (nth (nth r k0).deps d0).name = x
theorem s_ForNeeded_L17 (hv r : List TPkg) (name : Int) (hrl : r.length ≤ 4) (hrp : PL r) (p : TPkg) (i : Nat) (hi : i < r.length) (m9 m14 : Nat → Nat) (k : Nat) (hk : k < r.length)
    (hq : ∀ nd : Bool, (nd = true ∨ Later r (nth r i).name fun k0 d0 => k + 1 ≤ k0) → Ev (fun n => L6_14 (callF prg n) (n + 1) 0 (m9 n) (m14 n) (.sl 4 (hv.map ePkg)) (iI name) (.osl 0) (iI i) (bB nd) (iI ((k : Int) + 1)) (osN r p)) QYes) :
    ∀ j : Nat, j ≤ (nth r k).deps.length → ∀ (nd : Bool) (kk : Int) (c : Nat), kk = j → (nd = true ∨ Later r (nth r i).name fun k0 d0 => k < k0 ∨ k = k0 ∧ j ≤ d0) →
    Ev (fun n => L6_17 (callF prg n) (n + 1) 0 (m9 n) (m14 n) (n + 1 - c) (.sl 4 (hv.map ePkg)) (iI name) (.osl 0) (iI i) (bB nd) (iI k) (iI kk) (osN r p)) QYes := by
  refine up_ind ?_
  intro j hj ih nd kk c hkk hI
  subst hkk
  have hdl := (hrp k).2
  have hend : ¬ j < (nth r k).deps.length → (nd = true ∨ Later r (nth r i).name fun k0 d0 => k + 1 ≤ k0) := fun h => by
    rcases hI with e | ⟨k0, d0, h1, h2, h3, h4⟩
    · exact .inl e
    · refine .inr ⟨k0, d0, ?_, h2, h3, h4⟩
      rcases h1 with h1 | ⟨rfl, h1⟩
      · omega
      · omega
  have hnx : ∀ nd' : Bool, (nd = true → nd' = true) → ((nth (nth r k).deps j).name = (nth r i).name → nd' = true) → (nd' = true ∨ Later r (nth r i).name fun k0 d0 => k < k0 ∨ k = k0 ∧ j + 1 ≤ d0) := fun nd' a b => by
    rcases hI with e | ⟨k0, d0, h1, h2, h3, h4⟩
    · exact .inl (a e)
    · by_cases e : k = k0 ∧ d0 = j
      · obtain ⟨rfl, rfl⟩ := e; exact .inl (b h4)
      · refine .inr ⟨k0, d0, ?_, h2, h3, h4⟩
        rcases h1 with h1 | ⟨rfl, h1⟩
        · exact .inl h1
        · right; refine ⟨rfl, ?_⟩; omega
  cases nd
  all_goals (refine UL6_17 ?_; unfold LB6_17)
  all_goals repeat' (first | ((with_reducible refine eG ?_); first | (with_reducible first | refine ev_gtt ?_ | refine ev_gff ?_ | refine ev_gtf ?_ | refine ev_gft ?_ | refine ev_gu ?_) | refine ev_bd rfl ?_ | refine ev_bd0 rfl ?_ | ((with_reducible refine ev_gB ?_ ?_) <;> intro h)) | ((with_reducible refine eB ?_); first | ((with_reducible first | refine ev_lss ?_ ?_ | refine ev_eql ?_ ?_) <;> intro h <;> try (exfalso; omega)) | ((with_reducible refine ev_add ?_ ?_); · omega) | refine ev_bd rfl ?_ | refine ev_bd0 rfl ?_) | ((with_reducible refine eL ?_); first | ((with_reducible refine ev_lenm ?_ ?_); · rfl) | refine ev_lenom rfl rfl ?_ | refine ev_lenfm rfl rfl ?_ | refine ev_lenoc rfl rfl rfl ?_ | refine ev_lenc rfl rfl ?_ | refine ev_leno rfl rfl ?_ | refine ev_slen rfl ?_ | refine ev_bd rfl ?_ | refine ev_bd0 rfl ?_) | ((with_reducible refine eI ?_); first | ((with_reducible refine ev_idxn ?_ ?_ ?_); (· rfl); · omega) | (refine ev_idxon rfl rfl ?_ ?_; (· first | omega | (simp only [List.length_cons, List.length_nil, List.length_map, List.length_append]; omega))) | (refine ev_idxfn rfl rfl ?_ ?_; (focus omega)) | ((with_reducible refine ev_idx ?_ ?_ ?_); (· rfl); · omega) | (refine ev_idxo rfl rfl ?_ ?_; (· first | omega | (simp only [List.length_cons, List.length_nil, List.length_map, List.length_append]; omega))) | (refine ev_idxf rfl rfl ?_ ?_; (focus omega)) | refine ev_bd rfl ?_ | refine ev_bd0 rfl ?_) | ((with_reducible refine eK ?_); first | (with_reducible first | refine ev_ct ?_ | refine ev_cf ?_) | ((with_reducible refine ev_cond ?_ ?_) <;> intro h)) | ((with_reducible refine eO ?_); first | refine ev_bd rfl ?_ | (refine ev_bdB rfl ?_ ?_ <;> intro h <;> try (exfalso; simp_all; done)) | refine ev_bd0 rfl ?_ | (refine ev_ldm rfl ?_ rfl ?_; (focus omega)) | (refine ev_ldmB rfl ?_ rfl ?_ ?_; (focus omega); (all_goals intro h))) | ((with_reducible refine eD ?_); first | refine ev_bd rfl ?_ | refine ev_bd0 rfl ?_ | ((with_reducible refine ev_pickB ?_ ?_) <;> intro h)) | ((with_reducible refine ih ?_ _ _ _ ?_ (hnx true (fun _ => rfl) (fun _ => rfl))) <;> (first | omega | assumption | (simp only [*, List.map_append, List.length_append, List.length_cons, List.length_nil, List.map_cons, List.map_nil]; done) | (simp_all; done) | (simp_all; omega))) | ((with_reducible refine ih ?_ _ _ _ ?_ (hnx false (fun e => e) (fun e => absurd e (by (try simp only [Int.toNat_natCast, tn_sub1, tn_add1] at *); assumption)))) <;> (first | omega | assumption | (simp only [*, List.map_append, List.length_append, List.length_cons, List.length_nil, List.map_cons, List.map_nil]; done) | (simp_all; done) | (simp_all; omega))) | (with_reducible refine hq _ (hend ?_); omega) | refine ev_ret rfl ?_)
  all_goals trace_state
theorem s_ForNeeded_L14 (hv r : List TPkg) (name : Int) (hrl : r.length ≤ 4) (hrp : PL r) (p : TPkg) (i : Nat) (hi : i < r.length) (c9 : Nat)
    (hq : Ev (fun n => G6_9 (callF prg n) (n + 1) 0 (n + 1 - (c9 + 1)) [.sl 4 (hv.map ePkg), iI name, .osl 0, iI ((i : Int) + 1)] [.arr false 4 (r.map ePkg)]) QYes) :
    ∀ k : Nat, k ≤ r.length → ∀ (nd : Bool) (kk : Int) (c : Nat), kk = k → (nd = true ∨ Later r (nth r i).name fun k0 d0 => k ≤ k0) →
    Ev (fun n => L6_14 (callF prg n) (n + 1) 0 (n + 1 - c9) (n + 1 - c) (.sl 4 (hv.map ePkg)) (iI name) (.osl 0) (iI i) (bB nd) (iI kk) (osN r p)) QYes := by
  refine up_ind ?_
  intro k hk ih nd kk c hkk hI
  subst hkk
  have hend : ¬ k < r.length → nd = true := fun h => by
    rcases hI with e | ⟨k0, d0, h1, h2, -⟩
    · exact e
    · omega
  have hgo : k < r.length → Ev (fun n => L6_17 (callF prg n) (n + 1) 0 (n + 1 - c9) (n + 1 - (c + 1)) (n + 1) (.sl 4 (hv.map ePkg)) (iI name) (.osl 0) (iI i) (bB nd) (iI k) (iI 0) (osN r p)) QYes := fun h =>
    s_ForNeeded_L17 hv r name hrl hrp p i hi _ _ k h (fun nd' h' => ih h nd' _ _ rfl h') 0 (Nat.zero_le _) nd 0 0 rfl (hI.imp id fun ⟨k0, d0, h1, h2, h3, h4⟩ => ⟨k0, d0, by omega, h2, h3, h4⟩)
  cases nd
  all_goals (refine UL6_14 ?_; unfold LB6_14)
  all_goals repeat' (first | ((with_reducible refine eB ?_); first | ((with_reducible refine ev_lss ?_ ?_) <;> intro h <;> try (exfalso; omega)) | ((with_reducible refine ev_add ?_ ?_); · omega) | refine ev_bd rfl ?_ | refine ev_bd0 rfl ?_) | ((with_reducible refine eL ?_); first | ((with_reducible refine ev_lenm ?_ ?_); · rfl) | refine ev_lenom rfl rfl ?_ | refine ev_lenfm rfl rfl ?_ | refine ev_lenoc rfl rfl rfl ?_ | refine ev_lenc rfl rfl ?_ | refine ev_leno rfl rfl ?_ | refine ev_slen rfl ?_ | refine ev_bd rfl ?_ | refine ev_bd0 rfl ?_) | ((with_reducible refine eK ?_); first | (with_reducible first | refine ev_ct ?_ | refine ev_cf ?_) | ((with_reducible refine ev_cond ?_ ?_) <;> intro h)) | ((with_reducible refine eD ?_); first | refine ev_bd rfl ?_ | refine ev_bd0 rfl ?_) | ((with_reducible refine eH ?_); first | refine ev_gcB rfl ?_) | (with_reducible refine hgo ?_; omega) | (with_reducible exact hq) | (with_reducible first | refine UL6_9 ?_ | refine VL6_9 ?_) | refine ev_ret rfl ?_)
  all_goals first
    | (exfalso; have := hend (by omega); cases this)
    | trace_state
theorem s_ForNeeded_G (hv r : List TPkg) (name : Int) (hvl : hv.length ≤ 4) (hvp : PL hv) (hrl : r.length ≤ 4) (hrp : PL r) (hneed : ∀ i, i < r.length → (∀ q b, storeNewest hv (nth r i).name = (q, b) → b = true) ∨ (nth r i).name = name ∨ Later r (nth r i).name fun _ _ => True) : ∀ i : Nat, i ≤ r.length → ∀ (k : Int) (c : Nat), k = i →
    Ev (fun n => G6_9 (callF prg n) (n + 1) 0 (n + 1 - c) [.sl 4 (hv.map ePkg), iI name, .osl 0, iI k] [.arr false 4 (r.map ePkg)]) QYes := by
  refine up_ind ?_
  intro i hi ih k c hk
  subst hk
  have hgo : i < r.length → ∀ (p : TPkg) (nd : Bool), (nd = true ∨ Later r (nth r i).name fun _ _ => True) → Ev (fun n => L6_14 (callF prg n) (n + 1) 0 (n + 1 - c) (n + 1) (.sl 4 (hv.map ePkg)) (iI name) (.osl 0) (iI i) (bB nd) (iI 0) (osN r p)) QYes := fun h p nd hnd => by
    have h9 := ih h _ (c + 1) rfl
    simp only [Int.natCast_add, Int.natCast_one] at h9
    exact s_ForNeeded_L14 hv r name hrl hrp p i h c h9 0 (Nat.zero_le _) nd 0 0 rfl (hnd.imp id fun ⟨k0, d0, h1, h2⟩ => ⟨k0, d0, Nat.zero_le _, h2⟩)
  have hn := hneed i
  (refine UG6_9 _ ?_; unfold GB6_9)
  repeat' (first | ((with_reducible refine eG ?_); first | (with_reducible first | refine ev_gtt ?_ | refine ev_gff ?_ | refine ev_gtf ?_ | refine ev_gft ?_ | refine ev_gu ?_) | refine ev_bd rfl ?_ | refine ev_bd0 rfl ?_ | ((with_reducible refine ev_gB ?_ ?_) <;> intro h)) | ((with_reducible refine eB ?_); first | ((with_reducible first | refine ev_lss ?_ ?_ | refine ev_eql ?_ ?_) <;> intro h <;> try (exfalso; omega)) | refine ev_bd rfl ?_ | refine ev_bd0 rfl ?_) | ((with_reducible refine eL ?_); first | ((with_reducible refine ev_lenm ?_ ?_); · rfl) | refine ev_lenom rfl rfl ?_ | refine ev_lenfm rfl rfl ?_ | refine ev_lenoc rfl rfl rfl ?_ | refine ev_lenc rfl rfl ?_ | refine ev_leno rfl rfl ?_ | refine ev_slen rfl ?_ | refine ev_bd rfl ?_ | refine ev_bd0 rfl ?_) | ((with_reducible refine eI ?_); first | ((with_reducible refine ev_idxn ?_ ?_ ?_); (· rfl); · omega) | (refine ev_idxon rfl rfl ?_ ?_; (· first | omega | (simp only [List.length_cons, List.length_nil, List.length_map, List.length_append]; omega))) | (refine ev_idxfn rfl rfl ?_ ?_; (focus omega)) | ((with_reducible refine ev_idx ?_ ?_ ?_); (· rfl); · omega) | (refine ev_idxo rfl rfl ?_ ?_; (· first | omega | (simp only [List.length_cons, List.length_nil, List.length_map, List.length_append]; omega))) | (refine ev_idxf rfl rfl ?_ ?_; (focus omega)) | refine ev_bd rfl ?_ | refine ev_bd0 rfl ?_) | ((with_reducible refine eC ?_); first | ((refine ev_callE (s_StoreNewestI hv (by omega) hvp _) rfl rfl ?_); ((rintro _ _ ⟨p, b, hp9, rfl, rfl⟩) <;> ((rcases b with _ | _)) <;> (first | (refine ev_post ?_ rfl ?_; (focus first | exact .inl rfl | exact .inr rfl | (refine .inr ?_; simp [flagC, ownF, hasSl3, hasSl1, SO.hasSl, List.all_map, flatSV, SV.cells, Function.comp_def]; done))) | (refine ev_postF ?_ rfl ?_; (focus first | rfl | (simp [flagC, ownF, hasSl3, hasSl1, SO.hasSl, List.all_map, flatSV, SV.cells, Function.comp_def]; done))))))) | ((with_reducible refine eK ?_); first | (with_reducible first | refine ev_ct ?_ | refine ev_cf ?_) | ((with_reducible refine ev_cond ?_ ?_) <;> intro h)) | ((with_reducible refine eO ?_); first | refine ev_bd rfl ?_ | (refine ev_bdB rfl ?_ ?_ <;> intro h <;> try (exfalso; simp_all; done)) | refine ev_bd0 rfl ?_ | (refine ev_ldm rfl ?_ rfl ?_; (focus omega)) | (refine ev_ldmB rfl ?_ rfl ?_ ?_; (focus omega); (all_goals intro h))) | ((with_reducible refine eD ?_); first | refine ev_bd rfl ?_ | refine ev_bd0 rfl ?_ | ((with_reducible refine ev_pickB ?_ ?_) <;> intro h)) | (with_reducible refine hgo ?_ p true (.inl rfl); omega) | refine ev_ret rfl ?_)
  all_goals first
    | rfl
    | (refine hgo (by omega) p false (.inr ?_)
       rcases hn (by omega) with e | e | e
       · exact absurd (e _ _ hp9) (by decide)
       · exact absurd e (by assumption)
       · exact e)
    | trace_state
theorem need_what {st hv : List TPkg} {name : Int} {r : List TPkg} (hr : planFor st hv name = (r, true)) : ∀ i, i < r.length → (∀ q b, storeNewest hv (nth r i).name = (q, b) → b = true) ∨ (nth r i).name = name ∨ Later r (nth r i).name fun _ _ => True := by
  intro i hi
  have hg := got_of hr
  have h1 := (hg.mem.1 (nth_mem hi)).1
  generalize (nth r i).name = x at h1
  cases h1 with
  | this => exact .inr (.inl rfl)
  | was hp =>
    rename_i p
    refine .inl fun q b hq => ?_
    rw [storeNewest_ok (planOk_iff.1 hg.ok.2.1).1] at hq
    cases b with
    | true => rfl
    | false => exact absurd rfl ((newest_false hq).2 _ hp)
  | need h2 h3 h4 =>
    rename_i n p d
    obtain ⟨q, hq, e, h5⟩ := hg.reach h2
    rw [h3] at h5
    obtain ⟨rfl, -⟩ := Prod.mk.inj h5
    obtain ⟨k0, hk0, rfl⟩ := mem_nth hq
    obtain ⟨d0, hd0, rfl⟩ := mem_nth h4
    exact .inr (.inr ⟨k0, d0, trivial, hk0, hd0, rfl⟩)
theorem pureFnForNeeded : ∀ l : List Int, l.length ≤ 140737488351232 → (∀ x ∈ l, (Lit.int .u8 x).wf = true) → ∃ n los, callF prg n 6 [.sl 1 (l.map bI)] [] = some (.v (.bool true), los) := by
  intro l hlen hw
  refine ev_true ?_
  (refine U6 (nl := 0) rfl ?_; unfold B6)
  repeat' (first | ((with_reducible refine eG ?_); first | (with_reducible first | refine ev_gtt ?_ | refine ev_gff ?_ | refine ev_gtf ?_ | refine ev_gft ?_ | refine ev_gu ?_) | refine ev_bd rfl ?_ | refine ev_bd0 rfl ?_ | ((with_reducible refine ev_gB ?_ ?_) <;> intro h)) | ((with_reducible refine eB ?_); first | ((with_reducible first | refine ev_gtr ?_ ?_ | refine ev_eql ?_ ?_ | refine ev_neq ?_ ?_) <;> intro h <;> try (exfalso; omega)) | refine ev_bd rfl ?_ | refine ev_bd0 rfl ?_) | ((with_reducible refine eL ?_); first | ((with_reducible refine ev_lenm ?_ ?_); · rfl) | refine ev_lenom rfl rfl ?_ | refine ev_lenfm rfl rfl ?_ | refine ev_lenoc rfl rfl rfl ?_ | refine ev_lenc rfl rfl ?_ | refine ev_leno rfl rfl ?_ | refine ev_slen rfl ?_ | refine ev_bd rfl ?_ | refine ev_bd0 rfl ?_) | ((with_reducible refine eC ?_); first | ((refine ev_callE (s_DrawPlanFor l (bytes_of hw)) rfl rfl ?_); ((rintro _ _ ⟨st, hv, name, rfl, rfl, hs, hsm, hs2, hsm2, hpl, hn1, hn2⟩) <;> (first | (refine ev_post ?_ rfl ?_; (focus first | exact .inl rfl | exact .inr rfl | (refine .inr ?_; simp [flagC, ownF, hasSl3, hasSl1, SO.hasSl, List.all_map, flatSV, SV.cells, Function.comp_def]; done))) | (refine ev_postF ?_ rfl ?_; (focus first | rfl | (simp [flagC, ownF, hasSl3, hasSl1, SO.hasSl, List.all_map, flatSV, SV.cells, Function.comp_def]; done)))))) | ((refine ev_callE (s_PlanForS st hv (by omega) (PL_small hsm) (by omega) (PL_small hsm2) name) rfl rfl ?_); ((rintro _ _ ⟨r, ok, hr, rfl, rfl⟩) <;> (first | (refine ev_post ?_ rfl ?_; (focus first | exact .inl rfl | exact .inr rfl | (refine .inr ?_; simp [flagC, ownF, hasSl3, hasSl1, SO.hasSl, List.all_map, flatSV, SV.cells, Function.comp_def]; done))) | (refine ev_postF ?_ rfl ?_; (focus first | rfl | (simp [flagC, ownF, hasSl3, hasSl1, SO.hasSl, List.all_map, flatSV, SV.cells, Function.comp_def]; done)))))) | ((refine ev_callE (s_PlanForI st hv (by omega) (PL_small hsm) (by omega) (PL_small hsm2) name) rfl rfl ?_); ((rintro _ _ ⟨r2, ok2, hr2, rfl, rfl⟩) <;> (((rw [hr] at hr2); (obtain ⟨rfl, rfl⟩ := Prod.mk.inj hr2); (obtain ⟨hrl, hrp⟩ := planFor_len hr hs2 hsm hsm2); (rcases ok with _ | _))) <;> (first | (refine ev_post ?_ rfl ?_; (focus first | exact .inl rfl | exact .inr rfl | (refine .inr ?_; simp [flagC, ownF, hasSl3, hasSl1, SO.hasSl, List.all_map, flatSV, SV.cells, Function.comp_def]; done))) | (refine ev_postF ?_ rfl ?_; (focus first | rfl | (simp [flagC, ownF, hasSl3, hasSl1, SO.hasSl, List.all_map, flatSV, SV.cells, Function.comp_def]; done)))))) | ((refine ev_call (s_luPSame r (by omega) hrp) rfl rfl ?_ rfl ?_); (focus first | exact .inl rfl | exact .inr rfl | (refine .inr ?_; simp [flagC, ownF, hasSl3, hasSl1, SO.hasSl, List.all_map, flatSV, SV.cells, Function.comp_def]; done)))) | ((with_reducible refine eK ?_); first | (with_reducible first | refine ev_ct ?_ | refine ev_cf ?_) | ((with_reducible refine ev_cond ?_ ?_) <;> intro h)) | ((with_reducible refine eD ?_); first | refine ev_bd rfl ?_ | refine ev_bd0 rfl ?_ | ((with_reducible refine ev_pickB ?_ ?_) <;> intro h)) | ((with_reducible refine eH ?_); first | refine ev_gcB rfl ?_) | (with_reducible exact s_ForNeeded_G hv r name hs2 (PL_small hsm2) hrl hrp (need_what hr) 0 (Nat.zero_le _) 0 _ rfl) | (with_reducible first | refine UL6_9 ?_ | refine VL6_9 ?_) | refine ev_ret rfl ?_)
  all_goals first
    | rfl
    | trace_state
end Go.Proofs.Ytlnenahbffkbiaa
