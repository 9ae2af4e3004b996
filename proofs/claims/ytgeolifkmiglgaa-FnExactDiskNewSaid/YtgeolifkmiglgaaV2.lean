/- What the draws of keys and roots give. -/
import Derived.Test.YtgeolifkmiglgaaV1
namespace Go.Proofs.Ytgeolifkmiglgaa
open Go
set_option linter.unusedVariables false
set_option maxHeartbeats 4000000
set_option linter.unusedSimpArgs false



theorem s_l6Open (l : List Int) (hl : ∀ i, 0 ≤ nth l i ∧ nth l i < 256) : ∃ b, RdOK b ∧ Ex (fun m => callF prg m 49 [.sl 1 (l.map bI)] []) (.ptr 0 0) [rd b 0] := by
  have key : Ev (fun m => callF prg m 49 [.sl 1 (l.map bI)] []) (fun x os => ∃ b, RdOK b ∧ x = .ptr 0 0 ∧ os = [rd b 0]) := by
    (refine U49 (nl := 0) rfl ?_; unfold B49)
    repeat' (first | ((with_reducible refine eB ?_); first | ((with_reducible refine ev_gtr ?_ ?_) <;> intro h <;> try (exfalso; omega)) | refine ev_bd rfl ?_ | refine ev_bd0 rfl ?_) | ((with_reducible refine eL ?_); first | ((with_reducible refine ev_lenm ?_ ?_); · rfl) | refine ev_lenom rfl rfl ?_ | refine ev_lenoc rfl rfl rfl ?_ | refine ev_lenc rfl rfl ?_ | refine ev_leno rfl rfl ?_ | refine ev_slen rfl ?_ | refine ev_bd rfl ?_ | refine ev_bd0 rfl ?_) | ((with_reducible refine eS ?_); first | ((with_reducible first | refine ev_slh ?_ ?_ ?_ | refine ev_sll ?_ ?_ ?_); (· rfl); · omega) | ((first | refine ev_slvh rfl rfl ?_ ?_ | refine ev_slvl rfl rfl ?_ ?_); (· first | omega | (simp only [List.length_cons, List.length_nil, List.length_map, List.length_append]; omega))) | refine ev_bd rfl ?_ | refine ev_bd0 rfl ?_) | ((with_reducible refine eK ?_); first | (with_reducible first | refine ev_ct ?_ | refine ev_cf ?_) | ((with_reducible refine ev_cond ?_ ?_) <;> intro h)) | ((with_reducible refine eD ?_); first | refine ev_bd rfl ?_ | refine ev_bd0 rfl ?_) | ((with_reducible refine UJ49_3 ?_); (unfold JB49_3)) | refine ev_ret rfl ?_)
    · refine ⟨_, ⟨fun i => ?_, ?_⟩, rfl, rfl⟩
      · by_cases hi : i < (l.take (2000 : Int).toNat).length
        · have : nth (l.take (2000 : Int).toNat) i = nth l i := by
            unfold nth
            simp only [List.length_take] at hi
            simp only [List.getD_eq_getElem?_getD, List.getElem?_take]
            rw [if_pos (by omega)]
          rw [this]; exact hl i
        · have : nth (l.take (2000 : Int).toNat) i = 0 := by
            unfold nth
            rw [List.getD_eq_getElem?_getD, List.getElem?_eq_none (by omega)]; rfl
          rw [this]; omega
      · simp only [List.length_take]; omega
    · exact ⟨l, ⟨hl, by omega⟩, rfl, rfl⟩
  obtain ⟨x, os, ⟨b, hb, rfl, rfl⟩, he⟩ := key
  exact ⟨b, hb, he⟩


end Go.Proofs.Ytgeolifkmiglgaa
