/- What the functions of the kit give: the range, the reader of a code. -/
import Derived.Test.YtjfegdlgepbjoaaSb
import Derived.Test.YtjfegdlgepbjoaaTd
namespace Go.Proofs.Ytjfegdlgepbjoaa
open Go
set_option linter.unusedVariables false
set_option linter.unusedSimpArgs false

theorem s_l6In (n lo hi : Int) : Ex (fun m => callF prg m 70 [iI n, iI lo, iI hi] []) (bB (decide (lo ≤ n ∧ n ≤ hi))) [] := by
  refine ev_is.1 (U70 (nl := 0) rfl ?_)
  unfold B70
  repeat' (first | ((with_reducible refine eG ?_); first | (with_reducible first | refine ev_gtt ?_ | refine ev_gff ?_ | refine ev_gtf ?_ | refine ev_gft ?_ | refine ev_gu ?_) | refine ev_bd rfl ?_ | refine ev_bd0 rfl ?_ | ((with_reducible refine ev_gB ?_ ?_) <;> intro h)) | ((with_reducible refine eB ?_); first | ((with_reducible first | refine ev_leq ?_ ?_ | refine ev_geq ?_ ?_) <;> intro h <;> try (exfalso; omega)) | refine ev_bd rfl ?_ | refine ev_bd0 rfl ?_) | ((with_reducible refine eD ?_); first | refine ev_bd rfl ?_ | refine ev_bd0 rfl ?_ | ((with_reducible refine ev_pickB ?_ ?_) <;> intro h)) | refine ev_ret rfl ?_)
  all_goals exact ⟨by simp <;> omega, rfl⟩
theorem s_in (n lo hi : Int) : Ex (fun m => callF prg m 56 [iI n, iI lo, iI hi] []) (bB (decide (lo ≤ n ∧ n ≤ hi))) [] := by
  refine ev_is.1 (U56 (nl := 0) rfl ?_)
  unfold B56
  repeat' (first | ((with_reducible refine eG ?_); first | (with_reducible first | refine ev_gtt ?_ | refine ev_gff ?_ | refine ev_gtf ?_ | refine ev_gft ?_ | refine ev_gu ?_) | refine ev_bd rfl ?_ | refine ev_bd0 rfl ?_ | ((with_reducible refine ev_gB ?_ ?_) <;> intro h)) | ((with_reducible refine eB ?_); first | ((with_reducible first | refine ev_leq ?_ ?_ | refine ev_geq ?_ ?_) <;> intro h <;> try (exfalso; omega)) | refine ev_bd rfl ?_ | refine ev_bd0 rfl ?_) | ((with_reducible refine eD ?_); first | refine ev_bd rfl ?_ | refine ev_bd0 rfl ?_ | ((with_reducible refine ev_pickB ?_ ?_) <;> intro h)) | refine ev_ret rfl ?_)
  all_goals exact ⟨by simp <;> omega, rfl⟩
theorem s_isName (n : Int) : Ex (fun m => callF prg m 85 [iI n] []) (bB (decide (1 ≤ n ∧ n ≤ 4))) [] := by
  refine ev_is.1 (U85 (nl := 0) rfl ?_)
  unfold B85
  repeat' (first | ((with_reducible refine eC ?_); first | ((refine ev_callD (s_in ..) rfl rfl ?_ rfl rfl ?_ ?_); (focus first | exact .inl rfl | exact .inr rfl | (refine .inr ?_; simp [flagC, ownF, hasSl3, hasSl1, SO.hasSl, List.all_map, flatSV, SV.cells, Function.comp_def]; done)); (all_goals (intro h)); (all_goals (try (exfalso; first | omega | exact h rfl | exact h ⟨rfl, rfl, rfl⟩))))) | ((with_reducible refine eD ?_); first | refine ev_bd rfl ?_ | refine ev_bd0 rfl ?_) | refine ev_ret rfl ?_)
  all_goals exact ⟨by simp <;> omega, rfl⟩
theorem s_isVer (n : Int) : Ex (fun m => callF prg m 86 [iI n] []) (bB (decide (1 ≤ n ∧ n ≤ 5))) [] := by
  refine ev_is.1 (U86 (nl := 0) rfl ?_)
  unfold B86
  repeat' (first | ((with_reducible refine eC ?_); first | ((refine ev_callD (s_in ..) rfl rfl ?_ rfl rfl ?_ ?_); (focus first | exact .inl rfl | exact .inr rfl | (refine .inr ?_; simp [flagC, ownF, hasSl3, hasSl1, SO.hasSl, List.all_map, flatSV, SV.cells, Function.comp_def]; done)); (all_goals (intro h)); (all_goals (try (exfalso; first | omega | exact h rfl | exact h ⟨rfl, rfl, rfl⟩))))) | ((with_reducible refine eD ?_); first | refine ev_bd rfl ?_ | refine ev_bd0 rfl ?_) | refine ev_ret rfl ?_)
  all_goals exact ⟨by simp <;> omega, rfl⟩

/-- A law says yes. -/
def QYes : SV → List SO → Prop := fun x _ => x = .v (.bool true)
theorem ev_true {k : Nat} {args : List SV} (h : Ev (fun n => callF prg n k args []) QYes) : ∃ n los, callF prg n k args [] = some (.v (.bool true), los) := by
  obtain ⟨x, os, rfl, n0, h0⟩ := h
  exact ⟨n0, os, h0 n0 (Nat.le_refl _)⟩
/-- A reader that can be read: bytes, not too many, a place not too far. -/
structure RdOK (b : List Int) : Prop where
  by_ : ∀ i, 0 ≤ nth b i ∧ nth b i < 256
  len : b.length ≤ 2000

theorem s_pick {b : List Int} {p : Int} (hb : RdOK b) (hp : 0 ≤ p ∧ p < 1000000000) (n : Int) (hn : n < 1000000000) :
    ∃ x, ((1 ≤ n → 0 ≤ x ∧ x < n) ∧ (n < 1 → x = 0)) ∧ Ex (fun m => callF prg m 67 [.ptr 0 0, iI n] [rd b p]) (iI x) [rd b (p + 1)] := by
  have key : Ev (fun m => callF prg m 67 [.ptr 0 0, iI n] [rd b p]) (fun x os => ∃ v, x = iI v ∧ os = [rd b (p + 1)] ∧ (1 ≤ n → 0 ≤ v ∧ v < n) ∧ (n < 1 → v = 0)) := by
    obtain ⟨hby, hlen⟩ := hb
    refine U67 (nl := 1) rfl ?_
    unfold B67
    repeat' (first | ((with_reducible refine eG ?_); first | (with_reducible first | refine ev_gtt ?_ | refine ev_gff ?_ | refine ev_gtf ?_ | refine ev_gft ?_ | refine ev_gu ?_) | refine ev_bd rfl ?_ | refine ev_bd0 rfl ?_ | ((with_reducible refine ev_gB ?_ ?_) <;> intro h)) | ((with_reducible refine eB ?_); first | ((with_reducible first | refine ev_lss ?_ ?_ | refine ev_eql ?_ ?_) <;> intro h <;> try (exfalso; omega)) | ((with_reducible first | refine ev_add ?_ ?_ | refine ev_sub ?_ ?_ | refine ev_mul ?_ ?_); · omega) | ((with_reducible refine ev_quo ?_ ?_ ?_); (· omega); (· omega); intro x hx hx0 hx1) | ((with_reducible refine ev_rem ?_ ?_); (· omega); intro x hx hx0 hx1) | (((with_reducible refine ev_xor ?_ ?_ ?_); (· omega); (· omega); intro x hx0 hx1)) | refine ev_bd rfl ?_ | refine ev_bd0 rfl ?_) | ((with_reducible refine eL ?_); first | ((with_reducible refine ev_lenm ?_ ?_); · rfl) | refine ev_lenom rfl rfl ?_ | refine ev_lenoc rfl rfl rfl ?_ | refine ev_lenc rfl rfl ?_ | refine ev_leno rfl rfl ?_ | refine ev_slen rfl ?_ | refine ev_bd rfl ?_ | refine ev_bd0 rfl ?_) | ((with_reducible refine eI ?_); first | ((with_reducible refine ev_idx ?_ ?_ ?_); (· rfl); · omega) | (refine ev_idxo rfl rfl ?_ ?_; (· first | omega | (simp only [List.length_cons, List.length_nil, List.length_map, List.length_append]; omega))) | refine ev_bd rfl ?_ | refine ev_bd0 rfl ?_) | ((with_reducible refine eV ?_); first | (((with_reducible refine ev_conv8 ?_ ?_ ?_ ?_); (· rfl); (· rfl); (· exact hby _); intro hy0 hy1)) | ((with_reducible refine ev_conv64 ?_ ?_ ?_ ?_); (· rfl); (· rfl); · omega) | refine ev_bd rfl ?_ | refine ev_bd0 rfl ?_) | ((with_reducible refine eK ?_); first | (with_reducible first | refine ev_ct ?_ | refine ev_cf ?_) | ((with_reducible refine ev_cond ?_ ?_) <;> intro h)) | ((with_reducible refine eO ?_); first | refine ev_bd rfl ?_ | (refine ev_bdB rfl ?_ ?_ <;> intro h <;> try (exfalso; simp_all; done)) | refine ev_bd0 rfl ?_) | ((with_reducible refine eD ?_); first | refine ev_bd rfl ?_ | refine ev_bd0 rfl ?_ | ((with_reducible refine ev_pickB ?_ ?_) <;> intro h)) | refine ev_ret rfl ?_)
    all_goals first | exact ⟨_, rfl, rfl, by omega, by omega⟩ | trace_state
  obtain ⟨x, os, ⟨v, rfl, rfl, h1, h2⟩, he⟩ := key
  exact ⟨v, ⟨h1, h2⟩, he⟩

end Go.Proofs.Ytjfegdlgepbjoaa
