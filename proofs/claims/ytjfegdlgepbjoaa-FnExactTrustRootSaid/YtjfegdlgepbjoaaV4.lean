/- Trust begins with a root. -/
import Derived.Test.YtjfegdlgepbjoaaV2
import Derived.Test.YtjfegdlgepbjoaaV3
namespace Go.Proofs.Ytjfegdlgepbjoaa
open Go
set_option linter.unusedVariables false
set_option linter.unusedSimpArgs false
set_option maxHeartbeats 4000000

def zTrust : TTrust := ⟨⟨0, [], 0⟩, false, ⟨0, 0, []⟩⟩
def trustNew (r : TRoot) : TTrust × Bool := if rootOk r.num r.keys r.need = true then (⟨r, false, ⟨0, 0, []⟩⟩, true) else (zTrust, false)
/-- A result: trust, and yes or no. -/
def QTrust (p : TTrust × Bool) : SV → List SO → Prop := fun x os => ∃ t ok, p = (t, ok) ∧ x = .tup [rTrust t, bB ok] ∧ os = oTrust t

theorem s_TrustNewI (num : Int) (keys : List Int) (need : Int) (h47 : keys.length ≤ 17592186044416) : Ev (fun m => callF prg m 15 [.ag [iI num, .sl 1 (keys.map iI), iI need]] []) (QTrust (trustNew ⟨num, keys, need⟩)) := by
  (refine U15 (nl := 0) rfl ?_; unfold B15)
  repeat' (first | ((with_reducible refine eC ?_); first | ((refine ev_callB (s_RootOkI _ _ _ (by omega)) rfl rfl ?_ rfl rfl ?_ ?_); (focus first | exact .inl rfl | exact .inr rfl | (refine .inr ?_; simp [flagC, ownF, hasSl3, hasSl1, SO.hasSl, List.all_map, flatSV, SV.cells, Function.comp_def]; done)); (all_goals (intro h)); (all_goals (try (exfalso; simp_all; done)))) | ((refine ev_call (s_copiedRoot _ _ _ h47) rfl rfl ?_ rfl ?_); (focus first | exact .inl rfl | exact .inr rfl | (refine .inr ?_; simp [flagC, ownF, hasSl3, hasSl1, SO.hasSl, List.all_map, flatSV, SV.cells, Function.comp_def]; done)))) | ((with_reducible refine eK ?_); first | (with_reducible first | refine ev_ct ?_ | refine ev_cf ?_) | ((with_reducible refine ev_cond ?_ ?_) <;> intro h)) | ((with_reducible refine eO ?_); first | refine ev_bd rfl ?_ | (refine ev_bdB rfl ?_ ?_ <;> intro h <;> try (exfalso; simp_all; done)) | refine ev_bd0 rfl ?_) | ((with_reducible refine eD ?_); first | refine ev_bd rfl ?_ | refine ev_bd0 rfl ?_) | refine ev_ret rfl ?_)
  all_goals first | exact ⟨_, _, by simp [trustNew, *]; rfl, rfl, rfl⟩ | exact ⟨_, _, by simp [trustNew, *]; exact ⟨rfl, rfl⟩, rfl, rfl⟩ | trace_state
theorem s_TrustNewS (num : Int) (keys : List Int) (need : Int) (h47 : keys.length ≤ 17592186044416) : Ev (fun m => callF prg m 14 [.ag [iI num, .sl 1 (keys.map iI), iI need]] []) (QTrust (trustNew ⟨num, keys, need⟩)) := by
  (refine U14 (nl := 0) rfl ?_; unfold B14)
  repeat' (first | ((with_reducible refine eC ?_); first | ((refine ev_callB (s_RootOkS _ _ _ (by omega)) rfl rfl ?_ rfl rfl ?_ ?_); (focus first | exact .inl rfl | exact .inr rfl | (refine .inr ?_; simp [flagC, ownF, hasSl3, hasSl1, SO.hasSl, List.all_map, flatSV, SV.cells, Function.comp_def]; done)); (all_goals (intro h)); (all_goals (try (exfalso; simp_all; done)))) | ((refine ev_call (s_l11RootCopy _ _ _ h47) rfl rfl ?_ rfl ?_); (focus first | exact .inl rfl | exact .inr rfl | (refine .inr ?_; simp [flagC, ownF, hasSl3, hasSl1, SO.hasSl, List.all_map, flatSV, SV.cells, Function.comp_def]; done)))) | ((with_reducible refine eK ?_); first | (with_reducible first | refine ev_ct ?_ | refine ev_cf ?_) | ((with_reducible refine ev_cond ?_ ?_) <;> intro h)) | ((with_reducible refine eO ?_); first | refine ev_bd rfl ?_ | (refine ev_bdB rfl ?_ ?_ <;> intro h <;> try (exfalso; simp_all; done)) | refine ev_bd0 rfl ?_) | ((with_reducible refine eD ?_); first | refine ev_bd rfl ?_ | refine ev_bd0 rfl ?_) | refine ev_ret rfl ?_)
  all_goals first | exact ⟨_, _, by simp [trustNew, *]; rfl, rfl, rfl⟩ | exact ⟨_, _, by simp [trustNew, *]; exact ⟨rfl, rfl⟩, rfl, rfl⟩ | trace_state

theorem trustNew_len {r : TRoot} {t : TTrust} {ok : Bool} (h : trustNew r = (t, ok)) (hk : r.keys.length ≤ 1000) : TLen t := by
  unfold trustNew at h
  split at h <;> cases h
  · exact ⟨by simp; omega, by simp⟩
  · exact ⟨by simp [zTrust], by simp [zTrust]⟩
theorem trustNew_ok {r : TRoot} {t : TTrust} (h : trustNew r = (t, true)) : t = ⟨r, false, ⟨0, 0, []⟩⟩ ∧ trustOk t = true := by
  unfold trustNew at h
  split at h
  · rename_i hr
    cases h
    exact ⟨rfl, by simp [trustOk, hr]⟩
  · cases h

end Go.Proofs.Ytjfegdlgepbjoaa
