/- The law FnExactDiskTear, in S: S says yes, whatever the arguments. -/
import Derived.Test.YtbagbhbplhkjaaaDT1
import Derived.Test.YtbagbhbplhkjaaaDT2
import Derived.Test.YtbagbhbplhkjaaaDT3
import Derived.Test.YtbagbhbplhkjaaaDT4
import Derived.Test.YtbagbhbplhkjaaaDT5
import Derived.Test.YtbagbhbplhkjaaaTg
namespace Go.Proofs.Ytbagbhbplhkjaaa
open Go
set_option linter.unusedVariables false
set_option linter.unusedSimpArgs false
set_option maxHeartbeats 40000000
set_option maxRecDepth 100000
theorem pureFnExactDiskTear : ∀ d : TDisk, okDisk d → ∀ t : TStep, okStep t → ∃ n los, callF prg2 n 3 [aDisk d, eStep t] [] = some (.v (.bool true), los) := by
  intro d hd t ht
  refine ev_true2 (Ev.mono (Q := Is (bB true) []) ?_ fun x os h => h.1)
  obtain ⟨z, hz, he⟩ := s_szDiskB d hd
  by_cases h1 : z < 0
  · (refine PU3 (nl := 0) rfl ?_; unfold B3)
    repeat' (first | ((with_reducible refine eB ?_); first | ((with_reducible refine ev_lss ?_ ?_) <;> intro h <;> try (exfalso; omega)) | refine ev_bd rfl ?_ | refine ev_bd0 rfl ?_) | ((with_reducible refine eC ?_); first | ((refine ev_call (lift he rfl) rfl rfl ?_ rfl ?_); (focus first | exact .inl rfl | exact .inr rfl | (refine .inr ?_; simp [flagC, ownF, hasSl3, hasSl1, SO.hasSl, List.all_map, flatSV, SV.cells, Function.comp_def]; done)))) | ((with_reducible refine eK ?_); first | (with_reducible first | refine ev_ct ?_ | refine ev_cf ?_) | ((with_reducible refine ev_cond ?_ ?_) <;> intro h)) | ((with_reducible refine eO ?_); first | refine ev_bd rfl ?_ | (refine ev_bdB rfl ?_ ?_ <;> intro h <;> try (exfalso; simp_all; done)) | refine ev_bd0 rfl ?_) | ((with_reducible refine eD ?_); first | refine ev_bd rfl ?_ | refine ev_bd0 rfl ?_) | ((with_reducible refine ev_dchk ?_ ?_); · intro _; rfl) | refine ev_ret rfl ?_)
    all_goals first | exact ⟨rfl, rfl⟩ | (exfalso; omega)
  obtain ⟨z2, hz2, he2⟩ := s_szStep t ht z ⟨hz.2.1, hz.2.2⟩
  by_cases h2 : z2 < 0
  · (refine PU3 (nl := 0) rfl ?_; unfold B3)
    repeat' (first | ((with_reducible refine eB ?_); first | ((with_reducible refine ev_lss ?_ ?_) <;> intro h <;> try (exfalso; omega)) | refine ev_bd rfl ?_ | refine ev_bd0 rfl ?_) | ((with_reducible refine eC ?_); first | ((refine ev_call (lift he rfl) rfl rfl ?_ rfl ?_); (focus first | exact .inl rfl | exact .inr rfl | (refine .inr ?_; simp [flagC, ownF, hasSl3, hasSl1, SO.hasSl, List.all_map, flatSV, SV.cells, Function.comp_def]; done))) | ((refine ev_call (lift he2 rfl) rfl rfl ?_ rfl ?_); (focus first | exact .inl rfl | exact .inr rfl | (refine .inr ?_; simp [flagC, ownF, hasSl3, hasSl1, SO.hasSl, List.all_map, flatSV, SV.cells, Function.comp_def]; done)))) | ((with_reducible refine eK ?_); first | (with_reducible first | refine ev_ct ?_ | refine ev_cf ?_) | ((with_reducible refine ev_cond ?_ ?_) <;> intro h)) | ((with_reducible refine eO ?_); first | refine ev_bd rfl ?_ | (refine ev_bdB rfl ?_ ?_ <;> intro h <;> try (exfalso; simp_all; done)) | refine ev_bd0 rfl ?_) | ((with_reducible refine eD ?_); first | refine ev_bd rfl ?_ | refine ev_bd0 rfl ?_) | ((with_reducible refine ev_dchk ?_ ?_); · intro _; rfl) | refine ev_ret rfl ?_)
    all_goals first | exact ⟨rfl, rfl⟩ | (exfalso; omega)
  have hl := hz.1 (by omega)
  have hp := hz2 (by omega)
  have hS := s_DiskTearSN d t hl hp
  have hN := s_DiskTearN d t hl hp
  obtain ⟨r, hr⟩ : ∃ r, r = diskTear d t := ⟨_, rfl⟩
  rw [← hr] at hS hN
  obtain ⟨y, os, hq, hN⟩ := hN
  obtain ⟨y2, os2, hq2, hS⟩ := hS
  rcases hq with ⟨rfl, rfl, rfl⟩ | ⟨e, rfl, hle, rfl, rfl⟩ | ⟨e, rfl, hle, hdb, rfl, rfl⟩
  · obtain ⟨rfl, rfl⟩ : y2 = .tup [nDisk false, bB false] ∧ os2 = [.arr false 4 [], .arr false 1 [], .arr false 4 []] := by
      rcases hq2 with ⟨-, h1, h2⟩ | ⟨e, h1, -⟩ | ⟨e, h1, -⟩
      · exact ⟨h1, h2⟩
      · cases h1
      · cases h1
    exact dt1 d t z z2 he he2 h1 h2 hl hp hS hN
  · rcases hq2 with ⟨h3, -⟩ | ⟨e2, h3, -, rfl, rfl⟩ | ⟨e2, h3, -, hdb, rfl, rfl⟩
    · cases h3
    · obtain rfl : e = e2 := (Prod.mk.inj h3).1
      exact dt2 d t z z2 he he2 h1 h2 hl hp e hle hS hN
    · obtain rfl : e = e2 := (Prod.mk.inj h3).1
      obtain ⟨db, fs, has, jo⟩ := e
      dsimp only at hdb
      subst hdb
      exact dt3 d t z z2 he he2 h1 h2 hl hp fs has jo hle hS hN
  · obtain ⟨db, fs, has, jo⟩ := e
    dsimp only at hdb
    subst hdb
    rcases hq2 with ⟨h3, -⟩ | ⟨e2, h3, -, rfl, rfl⟩ | ⟨e2, h3, -, hdb, rfl, rfl⟩
    · cases h3
    · obtain rfl := (Prod.mk.inj h3).1
      exact dt4 d t z z2 he he2 h1 h2 hl hp fs has jo hle hS hN
    · obtain rfl := (Prod.mk.inj h3).1
      exact dt5 d t z z2 he he2 h1 h2 hl hp fs has jo hle hS hN
end Go.Proofs.Ytbagbhbplhkjaaa
