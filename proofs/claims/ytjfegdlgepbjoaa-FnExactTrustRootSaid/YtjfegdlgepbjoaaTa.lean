/- The evaluator S: the tables of this seat are right (by the kernel). -/
import Derived.Test.YtjfegdlgepbjoaaSz
import Derived.Test.YtjfegdlgepbjoaaTc
import Derived.Test.YtjfegdlgepbjoaaSb
namespace Go.Proofs.Ytjfegdlgepbjoaa
open Go
set_option maxRecDepth 100000
theorem tabR : TabOk Try.prog tab := tab_ok (by kernel_rfl) (by kernel_rfl) (by kernel_rfl)
def codesOk (P : Program) (fis : Nat → FnI) : Nat → List (Option Func) → Prop
  | _, [] => True
  | k, none :: l => codesOk P fis (k + 1) l
  | k, some fn :: l => (P.funcs[k]? = some fn ∧ (fn.name == "runtime.NumGoroutine") = false ∧ (fis k).nt ≤ fn.ntmps) ∧ codesOk P fis (k + 1) l
theorem codesOk_get {P : Program} {fis : Nat → FnI} : ∀ {l : List (Option Func)} {k : Nat}, codesOk P fis k l → ∀ (f : Nat) (fn : Func), l[f]? = some (some fn) → P.funcs[k + f]? = some fn ∧ (fn.name == "runtime.NumGoroutine") = false ∧ (fis (k + f)).nt ≤ fn.ntmps
  | [], _, _, f, fn, h => by simp at h
  | x :: l, k, hc, f, fn, h => by
    cases f with
    | zero =>
      simp at h; subst h
      exact hc.1
    | succ f =>
      have hl : codesOk P fis (k + 1) l := by
        cases x with
        | none => exact hc
        | some g => exact hc.2
      have := codesOk_get hl f fn (by simpa using h)
      rw [show k + (f + 1) = k + 1 + f by omega]; exact this
theorem cok3 : Try.prog.funcs[3]? = some Try.f3 ∧ (Try.f3.name == "runtime.NumGoroutine") = false ∧ (prg.fi 3).nt ≤ Try.f3.ntmps := ⟨Try.func3, by kernel_rfl, Nat.le_of_ble_eq_true (by kernel_rfl)⟩
theorem cok4 : Try.prog.funcs[4]? = some Try.f4 ∧ (Try.f4.name == "runtime.NumGoroutine") = false ∧ (prg.fi 4).nt ≤ Try.f4.ntmps := ⟨Try.func4, by kernel_rfl, Nat.le_of_ble_eq_true (by kernel_rfl)⟩
theorem cok5 : Try.prog.funcs[5]? = some Try.f5 ∧ (Try.f5.name == "runtime.NumGoroutine") = false ∧ (prg.fi 5).nt ≤ Try.f5.ntmps := ⟨Try.func5, by kernel_rfl, Nat.le_of_ble_eq_true (by kernel_rfl)⟩
theorem cok6 : Try.prog.funcs[6]? = some Try.f6 ∧ (Try.f6.name == "runtime.NumGoroutine") = false ∧ (prg.fi 6).nt ≤ Try.f6.ntmps := ⟨Try.func6, by kernel_rfl, Nat.le_of_ble_eq_true (by kernel_rfl)⟩
theorem cok7 : Try.prog.funcs[7]? = some Try.f7 ∧ (Try.f7.name == "runtime.NumGoroutine") = false ∧ (prg.fi 7).nt ≤ Try.f7.ntmps := ⟨Try.func7, by kernel_rfl, Nat.le_of_ble_eq_true (by kernel_rfl)⟩
theorem cok8 : Try.prog.funcs[8]? = some Try.f8 ∧ (Try.f8.name == "runtime.NumGoroutine") = false ∧ (prg.fi 8).nt ≤ Try.f8.ntmps := ⟨Try.func8, by kernel_rfl, Nat.le_of_ble_eq_true (by kernel_rfl)⟩
theorem cok9 : Try.prog.funcs[9]? = some Try.f9 ∧ (Try.f9.name == "runtime.NumGoroutine") = false ∧ (prg.fi 9).nt ≤ Try.f9.ntmps := ⟨Try.func9, by kernel_rfl, Nat.le_of_ble_eq_true (by kernel_rfl)⟩
theorem cok10 : Try.prog.funcs[10]? = some Try.f10 ∧ (Try.f10.name == "runtime.NumGoroutine") = false ∧ (prg.fi 10).nt ≤ Try.f10.ntmps := ⟨Try.func10, by kernel_rfl, Nat.le_of_ble_eq_true (by kernel_rfl)⟩
theorem cok11 : Try.prog.funcs[11]? = some Try.f11 ∧ (Try.f11.name == "runtime.NumGoroutine") = false ∧ (prg.fi 11).nt ≤ Try.f11.ntmps := ⟨Try.func11, by kernel_rfl, Nat.le_of_ble_eq_true (by kernel_rfl)⟩
theorem cok12 : Try.prog.funcs[12]? = some Try.f12 ∧ (Try.f12.name == "runtime.NumGoroutine") = false ∧ (prg.fi 12).nt ≤ Try.f12.ntmps := ⟨Try.func12, by kernel_rfl, Nat.le_of_ble_eq_true (by kernel_rfl)⟩
theorem cok13 : Try.prog.funcs[13]? = some Try.f13 ∧ (Try.f13.name == "runtime.NumGoroutine") = false ∧ (prg.fi 13).nt ≤ Try.f13.ntmps := ⟨Try.func13, by kernel_rfl, Nat.le_of_ble_eq_true (by kernel_rfl)⟩
theorem cok14 : Try.prog.funcs[14]? = some Try.f14 ∧ (Try.f14.name == "runtime.NumGoroutine") = false ∧ (prg.fi 14).nt ≤ Try.f14.ntmps := ⟨Try.func14, by kernel_rfl, Nat.le_of_ble_eq_true (by kernel_rfl)⟩
theorem cok15 : Try.prog.funcs[15]? = some Try.f15 ∧ (Try.f15.name == "runtime.NumGoroutine") = false ∧ (prg.fi 15).nt ≤ Try.f15.ntmps := ⟨Try.func15, by kernel_rfl, Nat.le_of_ble_eq_true (by kernel_rfl)⟩
theorem cok16 : Try.prog.funcs[16]? = some Try.f16 ∧ (Try.f16.name == "runtime.NumGoroutine") = false ∧ (prg.fi 16).nt ≤ Try.f16.ntmps := ⟨Try.func16, by kernel_rfl, Nat.le_of_ble_eq_true (by kernel_rfl)⟩
theorem cok17 : Try.prog.funcs[17]? = some Try.f17 ∧ (Try.f17.name == "runtime.NumGoroutine") = false ∧ (prg.fi 17).nt ≤ Try.f17.ntmps := ⟨Try.func17, by kernel_rfl, Nat.le_of_ble_eq_true (by kernel_rfl)⟩
theorem cok18 : Try.prog.funcs[18]? = some Try.f18 ∧ (Try.f18.name == "runtime.NumGoroutine") = false ∧ (prg.fi 18).nt ≤ Try.f18.ntmps := ⟨Try.func18, by kernel_rfl, Nat.le_of_ble_eq_true (by kernel_rfl)⟩
theorem cok19 : Try.prog.funcs[19]? = some Try.f19 ∧ (Try.f19.name == "runtime.NumGoroutine") = false ∧ (prg.fi 19).nt ≤ Try.f19.ntmps := ⟨Try.func19, by kernel_rfl, Nat.le_of_ble_eq_true (by kernel_rfl)⟩
theorem cok20 : Try.prog.funcs[20]? = some Try.f20 ∧ (Try.f20.name == "runtime.NumGoroutine") = false ∧ (prg.fi 20).nt ≤ Try.f20.ntmps := ⟨Try.func20, by kernel_rfl, Nat.le_of_ble_eq_true (by kernel_rfl)⟩
theorem cok21 : Try.prog.funcs[21]? = some Try.f21 ∧ (Try.f21.name == "runtime.NumGoroutine") = false ∧ (prg.fi 21).nt ≤ Try.f21.ntmps := ⟨Try.func21, by kernel_rfl, Nat.le_of_ble_eq_true (by kernel_rfl)⟩
theorem cok22 : Try.prog.funcs[22]? = some Try.f22 ∧ (Try.f22.name == "runtime.NumGoroutine") = false ∧ (prg.fi 22).nt ≤ Try.f22.ntmps := ⟨Try.func22, by kernel_rfl, Nat.le_of_ble_eq_true (by kernel_rfl)⟩
theorem cok23 : Try.prog.funcs[23]? = some Try.f23 ∧ (Try.f23.name == "runtime.NumGoroutine") = false ∧ (prg.fi 23).nt ≤ Try.f23.ntmps := ⟨Try.func23, by kernel_rfl, Nat.le_of_ble_eq_true (by kernel_rfl)⟩
theorem cok24 : Try.prog.funcs[24]? = some Try.f24 ∧ (Try.f24.name == "runtime.NumGoroutine") = false ∧ (prg.fi 24).nt ≤ Try.f24.ntmps := ⟨Try.func24, by kernel_rfl, Nat.le_of_ble_eq_true (by kernel_rfl)⟩
theorem cok25 : Try.prog.funcs[25]? = some Try.f25 ∧ (Try.f25.name == "runtime.NumGoroutine") = false ∧ (prg.fi 25).nt ≤ Try.f25.ntmps := ⟨Try.func25, by kernel_rfl, Nat.le_of_ble_eq_true (by kernel_rfl)⟩
theorem cok26 : Try.prog.funcs[26]? = some Try.f26 ∧ (Try.f26.name == "runtime.NumGoroutine") = false ∧ (prg.fi 26).nt ≤ Try.f26.ntmps := ⟨Try.func26, by kernel_rfl, Nat.le_of_ble_eq_true (by kernel_rfl)⟩
theorem cok27 : Try.prog.funcs[27]? = some Try.f27 ∧ (Try.f27.name == "runtime.NumGoroutine") = false ∧ (prg.fi 27).nt ≤ Try.f27.ntmps := ⟨Try.func27, by kernel_rfl, Nat.le_of_ble_eq_true (by kernel_rfl)⟩
theorem cok28 : Try.prog.funcs[28]? = some Try.f28 ∧ (Try.f28.name == "runtime.NumGoroutine") = false ∧ (prg.fi 28).nt ≤ Try.f28.ntmps := ⟨Try.func28, by kernel_rfl, Nat.le_of_ble_eq_true (by kernel_rfl)⟩
theorem cok29 : Try.prog.funcs[29]? = some Try.f29 ∧ (Try.f29.name == "runtime.NumGoroutine") = false ∧ (prg.fi 29).nt ≤ Try.f29.ntmps := ⟨Try.func29, by kernel_rfl, Nat.le_of_ble_eq_true (by kernel_rfl)⟩
theorem cok30 : Try.prog.funcs[30]? = some Try.f30 ∧ (Try.f30.name == "runtime.NumGoroutine") = false ∧ (prg.fi 30).nt ≤ Try.f30.ntmps := ⟨Try.func30, by kernel_rfl, Nat.le_of_ble_eq_true (by kernel_rfl)⟩
theorem cok31 : Try.prog.funcs[31]? = some Try.f31 ∧ (Try.f31.name == "runtime.NumGoroutine") = false ∧ (prg.fi 31).nt ≤ Try.f31.ntmps := ⟨Try.func31, by kernel_rfl, Nat.le_of_ble_eq_true (by kernel_rfl)⟩
theorem cok32 : Try.prog.funcs[32]? = some Try.f32 ∧ (Try.f32.name == "runtime.NumGoroutine") = false ∧ (prg.fi 32).nt ≤ Try.f32.ntmps := ⟨Try.func32, by kernel_rfl, Nat.le_of_ble_eq_true (by kernel_rfl)⟩
theorem cok33 : Try.prog.funcs[33]? = some Try.f33 ∧ (Try.f33.name == "runtime.NumGoroutine") = false ∧ (prg.fi 33).nt ≤ Try.f33.ntmps := ⟨Try.func33, by kernel_rfl, Nat.le_of_ble_eq_true (by kernel_rfl)⟩
theorem cok34 : Try.prog.funcs[34]? = some Try.f34 ∧ (Try.f34.name == "runtime.NumGoroutine") = false ∧ (prg.fi 34).nt ≤ Try.f34.ntmps := ⟨Try.func34, by kernel_rfl, Nat.le_of_ble_eq_true (by kernel_rfl)⟩
theorem cok35 : Try.prog.funcs[35]? = some Try.f35 ∧ (Try.f35.name == "runtime.NumGoroutine") = false ∧ (prg.fi 35).nt ≤ Try.f35.ntmps := ⟨Try.func35, by kernel_rfl, Nat.le_of_ble_eq_true (by kernel_rfl)⟩
theorem cok36 : Try.prog.funcs[36]? = some Try.f36 ∧ (Try.f36.name == "runtime.NumGoroutine") = false ∧ (prg.fi 36).nt ≤ Try.f36.ntmps := ⟨Try.func36, by kernel_rfl, Nat.le_of_ble_eq_true (by kernel_rfl)⟩
theorem cok37 : Try.prog.funcs[37]? = some Try.f37 ∧ (Try.f37.name == "runtime.NumGoroutine") = false ∧ (prg.fi 37).nt ≤ Try.f37.ntmps := ⟨Try.func37, by kernel_rfl, Nat.le_of_ble_eq_true (by kernel_rfl)⟩
theorem cok38 : Try.prog.funcs[38]? = some Try.f38 ∧ (Try.f38.name == "runtime.NumGoroutine") = false ∧ (prg.fi 38).nt ≤ Try.f38.ntmps := ⟨Try.func38, by kernel_rfl, Nat.le_of_ble_eq_true (by kernel_rfl)⟩
theorem cok39 : Try.prog.funcs[39]? = some Try.f39 ∧ (Try.f39.name == "runtime.NumGoroutine") = false ∧ (prg.fi 39).nt ≤ Try.f39.ntmps := ⟨Try.func39, by kernel_rfl, Nat.le_of_ble_eq_true (by kernel_rfl)⟩
theorem cok40 : Try.prog.funcs[40]? = some Try.f40 ∧ (Try.f40.name == "runtime.NumGoroutine") = false ∧ (prg.fi 40).nt ≤ Try.f40.ntmps := ⟨Try.func40, by kernel_rfl, Nat.le_of_ble_eq_true (by kernel_rfl)⟩
theorem cok41 : Try.prog.funcs[41]? = some Try.f41 ∧ (Try.f41.name == "runtime.NumGoroutine") = false ∧ (prg.fi 41).nt ≤ Try.f41.ntmps := ⟨Try.func41, by kernel_rfl, Nat.le_of_ble_eq_true (by kernel_rfl)⟩
theorem cok42 : Try.prog.funcs[42]? = some Try.f42 ∧ (Try.f42.name == "runtime.NumGoroutine") = false ∧ (prg.fi 42).nt ≤ Try.f42.ntmps := ⟨Try.func42, by kernel_rfl, Nat.le_of_ble_eq_true (by kernel_rfl)⟩
theorem cok43 : Try.prog.funcs[43]? = some Try.f43 ∧ (Try.f43.name == "runtime.NumGoroutine") = false ∧ (prg.fi 43).nt ≤ Try.f43.ntmps := ⟨Try.func43, by kernel_rfl, Nat.le_of_ble_eq_true (by kernel_rfl)⟩
theorem cok44 : Try.prog.funcs[44]? = some Try.f44 ∧ (Try.f44.name == "runtime.NumGoroutine") = false ∧ (prg.fi 44).nt ≤ Try.f44.ntmps := ⟨Try.func44, by kernel_rfl, Nat.le_of_ble_eq_true (by kernel_rfl)⟩
theorem cok45 : Try.prog.funcs[45]? = some Try.f45 ∧ (Try.f45.name == "runtime.NumGoroutine") = false ∧ (prg.fi 45).nt ≤ Try.f45.ntmps := ⟨Try.func45, by kernel_rfl, Nat.le_of_ble_eq_true (by kernel_rfl)⟩
theorem cok46 : Try.prog.funcs[46]? = some Try.f46 ∧ (Try.f46.name == "runtime.NumGoroutine") = false ∧ (prg.fi 46).nt ≤ Try.f46.ntmps := ⟨Try.func46, by kernel_rfl, Nat.le_of_ble_eq_true (by kernel_rfl)⟩
theorem cok47 : Try.prog.funcs[47]? = some Try.f47 ∧ (Try.f47.name == "runtime.NumGoroutine") = false ∧ (prg.fi 47).nt ≤ Try.f47.ntmps := ⟨Try.func47, by kernel_rfl, Nat.le_of_ble_eq_true (by kernel_rfl)⟩
theorem cok48 : Try.prog.funcs[48]? = some Try.f48 ∧ (Try.f48.name == "runtime.NumGoroutine") = false ∧ (prg.fi 48).nt ≤ Try.f48.ntmps := ⟨Try.func48, by kernel_rfl, Nat.le_of_ble_eq_true (by kernel_rfl)⟩
theorem cok49 : Try.prog.funcs[49]? = some Try.f49 ∧ (Try.f49.name == "runtime.NumGoroutine") = false ∧ (prg.fi 49).nt ≤ Try.f49.ntmps := ⟨Try.func49, by kernel_rfl, Nat.le_of_ble_eq_true (by kernel_rfl)⟩
theorem cok50 : Try.prog.funcs[50]? = some Try.f50 ∧ (Try.f50.name == "runtime.NumGoroutine") = false ∧ (prg.fi 50).nt ≤ Try.f50.ntmps := ⟨Try.func50, by kernel_rfl, Nat.le_of_ble_eq_true (by kernel_rfl)⟩
theorem cok51 : Try.prog.funcs[51]? = some Try.f51 ∧ (Try.f51.name == "runtime.NumGoroutine") = false ∧ (prg.fi 51).nt ≤ Try.f51.ntmps := ⟨Try.func51, by kernel_rfl, Nat.le_of_ble_eq_true (by kernel_rfl)⟩
theorem cok52 : Try.prog.funcs[52]? = some Try.f52 ∧ (Try.f52.name == "runtime.NumGoroutine") = false ∧ (prg.fi 52).nt ≤ Try.f52.ntmps := ⟨Try.func52, by kernel_rfl, Nat.le_of_ble_eq_true (by kernel_rfl)⟩
theorem cok53 : Try.prog.funcs[53]? = some Try.f53 ∧ (Try.f53.name == "runtime.NumGoroutine") = false ∧ (prg.fi 53).nt ≤ Try.f53.ntmps := ⟨Try.func53, by kernel_rfl, Nat.le_of_ble_eq_true (by kernel_rfl)⟩
theorem cok54 : Try.prog.funcs[54]? = some Try.f54 ∧ (Try.f54.name == "runtime.NumGoroutine") = false ∧ (prg.fi 54).nt ≤ Try.f54.ntmps := ⟨Try.func54, by kernel_rfl, Nat.le_of_ble_eq_true (by kernel_rfl)⟩
theorem cok55 : Try.prog.funcs[55]? = some Try.f55 ∧ (Try.f55.name == "runtime.NumGoroutine") = false ∧ (prg.fi 55).nt ≤ Try.f55.ntmps := ⟨Try.func55, by kernel_rfl, Nat.le_of_ble_eq_true (by kernel_rfl)⟩
theorem cok56 : Try.prog.funcs[56]? = some Try.f56 ∧ (Try.f56.name == "runtime.NumGoroutine") = false ∧ (prg.fi 56).nt ≤ Try.f56.ntmps := ⟨Try.func56, by kernel_rfl, Nat.le_of_ble_eq_true (by kernel_rfl)⟩
theorem cok57 : Try.prog.funcs[57]? = some Try.f57 ∧ (Try.f57.name == "runtime.NumGoroutine") = false ∧ (prg.fi 57).nt ≤ Try.f57.ntmps := ⟨Try.func57, by kernel_rfl, Nat.le_of_ble_eq_true (by kernel_rfl)⟩
theorem cok58 : Try.prog.funcs[58]? = some Try.f58 ∧ (Try.f58.name == "runtime.NumGoroutine") = false ∧ (prg.fi 58).nt ≤ Try.f58.ntmps := ⟨Try.func58, by kernel_rfl, Nat.le_of_ble_eq_true (by kernel_rfl)⟩
theorem cok59 : Try.prog.funcs[59]? = some Try.f59 ∧ (Try.f59.name == "runtime.NumGoroutine") = false ∧ (prg.fi 59).nt ≤ Try.f59.ntmps := ⟨Try.func59, by kernel_rfl, Nat.le_of_ble_eq_true (by kernel_rfl)⟩
theorem cok60 : Try.prog.funcs[60]? = some Try.f60 ∧ (Try.f60.name == "runtime.NumGoroutine") = false ∧ (prg.fi 60).nt ≤ Try.f60.ntmps := ⟨Try.func60, by kernel_rfl, Nat.le_of_ble_eq_true (by kernel_rfl)⟩
theorem cok61 : Try.prog.funcs[61]? = some Try.f61 ∧ (Try.f61.name == "runtime.NumGoroutine") = false ∧ (prg.fi 61).nt ≤ Try.f61.ntmps := ⟨Try.func61, by kernel_rfl, Nat.le_of_ble_eq_true (by kernel_rfl)⟩
theorem cok62 : Try.prog.funcs[62]? = some Try.f62 ∧ (Try.f62.name == "runtime.NumGoroutine") = false ∧ (prg.fi 62).nt ≤ Try.f62.ntmps := ⟨Try.func62, by kernel_rfl, Nat.le_of_ble_eq_true (by kernel_rfl)⟩
theorem cok63 : Try.prog.funcs[63]? = some Try.f63 ∧ (Try.f63.name == "runtime.NumGoroutine") = false ∧ (prg.fi 63).nt ≤ Try.f63.ntmps := ⟨Try.func63, by kernel_rfl, Nat.le_of_ble_eq_true (by kernel_rfl)⟩
theorem cok64 : Try.prog.funcs[64]? = some Try.f64 ∧ (Try.f64.name == "runtime.NumGoroutine") = false ∧ (prg.fi 64).nt ≤ Try.f64.ntmps := ⟨Try.func64, by kernel_rfl, Nat.le_of_ble_eq_true (by kernel_rfl)⟩
theorem cok65 : Try.prog.funcs[65]? = some Try.f65 ∧ (Try.f65.name == "runtime.NumGoroutine") = false ∧ (prg.fi 65).nt ≤ Try.f65.ntmps := ⟨Try.func65, by kernel_rfl, Nat.le_of_ble_eq_true (by kernel_rfl)⟩
theorem cok66 : Try.prog.funcs[66]? = some Try.f66 ∧ (Try.f66.name == "runtime.NumGoroutine") = false ∧ (prg.fi 66).nt ≤ Try.f66.ntmps := ⟨Try.func66, by kernel_rfl, Nat.le_of_ble_eq_true (by kernel_rfl)⟩
theorem cok67 : Try.prog.funcs[67]? = some Try.f67 ∧ (Try.f67.name == "runtime.NumGoroutine") = false ∧ (prg.fi 67).nt ≤ Try.f67.ntmps := ⟨Try.func67, by kernel_rfl, Nat.le_of_ble_eq_true (by kernel_rfl)⟩
theorem cok68 : Try.prog.funcs[68]? = some Try.f68 ∧ (Try.f68.name == "runtime.NumGoroutine") = false ∧ (prg.fi 68).nt ≤ Try.f68.ntmps := ⟨Try.func68, by kernel_rfl, Nat.le_of_ble_eq_true (by kernel_rfl)⟩
theorem cok69 : Try.prog.funcs[69]? = some Try.f69 ∧ (Try.f69.name == "runtime.NumGoroutine") = false ∧ (prg.fi 69).nt ≤ Try.f69.ntmps := ⟨Try.func69, by kernel_rfl, Nat.le_of_ble_eq_true (by kernel_rfl)⟩
theorem cok70 : Try.prog.funcs[70]? = some Try.f70 ∧ (Try.f70.name == "runtime.NumGoroutine") = false ∧ (prg.fi 70).nt ≤ Try.f70.ntmps := ⟨Try.func70, by kernel_rfl, Nat.le_of_ble_eq_true (by kernel_rfl)⟩
theorem cok71 : Try.prog.funcs[71]? = some Try.f71 ∧ (Try.f71.name == "runtime.NumGoroutine") = false ∧ (prg.fi 71).nt ≤ Try.f71.ntmps := ⟨Try.func71, by kernel_rfl, Nat.le_of_ble_eq_true (by kernel_rfl)⟩
theorem cok72 : Try.prog.funcs[72]? = some Try.f72 ∧ (Try.f72.name == "runtime.NumGoroutine") = false ∧ (prg.fi 72).nt ≤ Try.f72.ntmps := ⟨Try.func72, by kernel_rfl, Nat.le_of_ble_eq_true (by kernel_rfl)⟩
theorem cok73 : Try.prog.funcs[73]? = some Try.f73 ∧ (Try.f73.name == "runtime.NumGoroutine") = false ∧ (prg.fi 73).nt ≤ Try.f73.ntmps := ⟨Try.func73, by kernel_rfl, Nat.le_of_ble_eq_true (by kernel_rfl)⟩
theorem cok74 : Try.prog.funcs[74]? = some Try.f74 ∧ (Try.f74.name == "runtime.NumGoroutine") = false ∧ (prg.fi 74).nt ≤ Try.f74.ntmps := ⟨Try.func74, by kernel_rfl, Nat.le_of_ble_eq_true (by kernel_rfl)⟩
theorem cok75 : Try.prog.funcs[75]? = some Try.f75 ∧ (Try.f75.name == "runtime.NumGoroutine") = false ∧ (prg.fi 75).nt ≤ Try.f75.ntmps := ⟨Try.func75, by kernel_rfl, Nat.le_of_ble_eq_true (by kernel_rfl)⟩
theorem cok76 : Try.prog.funcs[76]? = some Try.f76 ∧ (Try.f76.name == "runtime.NumGoroutine") = false ∧ (prg.fi 76).nt ≤ Try.f76.ntmps := ⟨Try.func76, by kernel_rfl, Nat.le_of_ble_eq_true (by kernel_rfl)⟩
theorem cok77 : Try.prog.funcs[77]? = some Try.f77 ∧ (Try.f77.name == "runtime.NumGoroutine") = false ∧ (prg.fi 77).nt ≤ Try.f77.ntmps := ⟨Try.func77, by kernel_rfl, Nat.le_of_ble_eq_true (by kernel_rfl)⟩
theorem cok78 : Try.prog.funcs[78]? = some Try.f78 ∧ (Try.f78.name == "runtime.NumGoroutine") = false ∧ (prg.fi 78).nt ≤ Try.f78.ntmps := ⟨Try.func78, by kernel_rfl, Nat.le_of_ble_eq_true (by kernel_rfl)⟩
theorem cok79 : Try.prog.funcs[79]? = some Try.f79 ∧ (Try.f79.name == "runtime.NumGoroutine") = false ∧ (prg.fi 79).nt ≤ Try.f79.ntmps := ⟨Try.func79, by kernel_rfl, Nat.le_of_ble_eq_true (by kernel_rfl)⟩
theorem cok80 : Try.prog.funcs[80]? = some Try.f80 ∧ (Try.f80.name == "runtime.NumGoroutine") = false ∧ (prg.fi 80).nt ≤ Try.f80.ntmps := ⟨Try.func80, by kernel_rfl, Nat.le_of_ble_eq_true (by kernel_rfl)⟩
theorem cok81 : Try.prog.funcs[81]? = some Try.f81 ∧ (Try.f81.name == "runtime.NumGoroutine") = false ∧ (prg.fi 81).nt ≤ Try.f81.ntmps := ⟨Try.func81, by kernel_rfl, Nat.le_of_ble_eq_true (by kernel_rfl)⟩
theorem cok82 : Try.prog.funcs[82]? = some Try.f82 ∧ (Try.f82.name == "runtime.NumGoroutine") = false ∧ (prg.fi 82).nt ≤ Try.f82.ntmps := ⟨Try.func82, by kernel_rfl, Nat.le_of_ble_eq_true (by kernel_rfl)⟩
theorem cok83 : Try.prog.funcs[83]? = some Try.f83 ∧ (Try.f83.name == "runtime.NumGoroutine") = false ∧ (prg.fi 83).nt ≤ Try.f83.ntmps := ⟨Try.func83, by kernel_rfl, Nat.le_of_ble_eq_true (by kernel_rfl)⟩
theorem cok84 : Try.prog.funcs[84]? = some Try.f84 ∧ (Try.f84.name == "runtime.NumGoroutine") = false ∧ (prg.fi 84).nt ≤ Try.f84.ntmps := ⟨Try.func84, by kernel_rfl, Nat.le_of_ble_eq_true (by kernel_rfl)⟩
theorem cok85 : Try.prog.funcs[85]? = some Try.f85 ∧ (Try.f85.name == "runtime.NumGoroutine") = false ∧ (prg.fi 85).nt ≤ Try.f85.ntmps := ⟨Try.func85, by kernel_rfl, Nat.le_of_ble_eq_true (by kernel_rfl)⟩
theorem cok86 : Try.prog.funcs[86]? = some Try.f86 ∧ (Try.f86.name == "runtime.NumGoroutine") = false ∧ (prg.fi 86).nt ≤ Try.f86.ntmps := ⟨Try.func86, by kernel_rfl, Nat.le_of_ble_eq_true (by kernel_rfl)⟩
theorem cok87 : Try.prog.funcs[87]? = some Try.f87 ∧ (Try.f87.name == "runtime.NumGoroutine") = false ∧ (prg.fi 87).nt ≤ Try.f87.ntmps := ⟨Try.func87, by kernel_rfl, Nat.le_of_ble_eq_true (by kernel_rfl)⟩
theorem cok88 : Try.prog.funcs[88]? = some Try.f88 ∧ (Try.f88.name == "runtime.NumGoroutine") = false ∧ (prg.fi 88).nt ≤ Try.f88.ntmps := ⟨Try.func88, by kernel_rfl, Nat.le_of_ble_eq_true (by kernel_rfl)⟩
theorem cok89 : Try.prog.funcs[89]? = some Try.f89 ∧ (Try.f89.name == "runtime.NumGoroutine") = false ∧ (prg.fi 89).nt ≤ Try.f89.ntmps := ⟨Try.func89, by kernel_rfl, Nat.le_of_ble_eq_true (by kernel_rfl)⟩
theorem cok90 : Try.prog.funcs[90]? = some Try.f90 ∧ (Try.f90.name == "runtime.NumGoroutine") = false ∧ (prg.fi 90).nt ≤ Try.f90.ntmps := ⟨Try.func90, by kernel_rfl, Nat.le_of_ble_eq_true (by kernel_rfl)⟩
theorem cok91 : Try.prog.funcs[91]? = some Try.f91 ∧ (Try.f91.name == "runtime.NumGoroutine") = false ∧ (prg.fi 91).nt ≤ Try.f91.ntmps := ⟨Try.func91, by kernel_rfl, Nat.le_of_ble_eq_true (by kernel_rfl)⟩
theorem cok92 : Try.prog.funcs[92]? = some Try.f92 ∧ (Try.f92.name == "runtime.NumGoroutine") = false ∧ (prg.fi 92).nt ≤ Try.f92.ntmps := ⟨Try.func92, by kernel_rfl, Nat.le_of_ble_eq_true (by kernel_rfl)⟩
theorem cok93 : Try.prog.funcs[93]? = some Try.f93 ∧ (Try.f93.name == "runtime.NumGoroutine") = false ∧ (prg.fi 93).nt ≤ Try.f93.ntmps := ⟨Try.func93, by kernel_rfl, Nat.le_of_ble_eq_true (by kernel_rfl)⟩
theorem cok94 : Try.prog.funcs[94]? = some Try.f94 ∧ (Try.f94.name == "runtime.NumGoroutine") = false ∧ (prg.fi 94).nt ≤ Try.f94.ntmps := ⟨Try.func94, by kernel_rfl, Nat.le_of_ble_eq_true (by kernel_rfl)⟩
theorem cok95 : Try.prog.funcs[95]? = some Try.f95 ∧ (Try.f95.name == "runtime.NumGoroutine") = false ∧ (prg.fi 95).nt ≤ Try.f95.ntmps := ⟨Try.func95, by kernel_rfl, Nat.le_of_ble_eq_true (by kernel_rfl)⟩
theorem cok96 : Try.prog.funcs[96]? = some Try.f96 ∧ (Try.f96.name == "runtime.NumGoroutine") = false ∧ (prg.fi 96).nt ≤ Try.f96.ntmps := ⟨Try.func96, by kernel_rfl, Nat.le_of_ble_eq_true (by kernel_rfl)⟩
theorem cok97 : Try.prog.funcs[97]? = some Try.f97 ∧ (Try.f97.name == "runtime.NumGoroutine") = false ∧ (prg.fi 97).nt ≤ Try.f97.ntmps := ⟨Try.func97, by kernel_rfl, Nat.le_of_ble_eq_true (by kernel_rfl)⟩
theorem cok98 : Try.prog.funcs[98]? = some Try.f98 ∧ (Try.f98.name == "runtime.NumGoroutine") = false ∧ (prg.fi 98).nt ≤ Try.f98.ntmps := ⟨Try.func98, by kernel_rfl, Nat.le_of_ble_eq_true (by kernel_rfl)⟩
theorem cok99 : Try.prog.funcs[99]? = some Try.f99 ∧ (Try.f99.name == "runtime.NumGoroutine") = false ∧ (prg.fi 99).nt ≤ Try.f99.ntmps := ⟨Try.func99, by kernel_rfl, Nat.le_of_ble_eq_true (by kernel_rfl)⟩
theorem cok100 : Try.prog.funcs[100]? = some Try.f100 ∧ (Try.f100.name == "runtime.NumGoroutine") = false ∧ (prg.fi 100).nt ≤ Try.f100.ntmps := ⟨Try.func100, by kernel_rfl, Nat.le_of_ble_eq_true (by kernel_rfl)⟩
theorem cok101 : Try.prog.funcs[101]? = some Try.f101 ∧ (Try.f101.name == "runtime.NumGoroutine") = false ∧ (prg.fi 101).nt ≤ Try.f101.ntmps := ⟨Try.func101, by kernel_rfl, Nat.le_of_ble_eq_true (by kernel_rfl)⟩
theorem cok102 : Try.prog.funcs[102]? = some Try.f102 ∧ (Try.f102.name == "runtime.NumGoroutine") = false ∧ (prg.fi 102).nt ≤ Try.f102.ntmps := ⟨Try.func102, by kernel_rfl, Nat.le_of_ble_eq_true (by kernel_rfl)⟩
theorem cok103 : Try.prog.funcs[103]? = some Try.f103 ∧ (Try.f103.name == "runtime.NumGoroutine") = false ∧ (prg.fi 103).nt ≤ Try.f103.ntmps := ⟨Try.func103, by kernel_rfl, Nat.le_of_ble_eq_true (by kernel_rfl)⟩
theorem cok104 : Try.prog.funcs[104]? = some Try.f104 ∧ (Try.f104.name == "runtime.NumGoroutine") = false ∧ (prg.fi 104).nt ≤ Try.f104.ntmps := ⟨Try.func104, by kernel_rfl, Nat.le_of_ble_eq_true (by kernel_rfl)⟩
theorem cok105 : Try.prog.funcs[105]? = some Try.f105 ∧ (Try.f105.name == "runtime.NumGoroutine") = false ∧ (prg.fi 105).nt ≤ Try.f105.ntmps := ⟨Try.func105, by kernel_rfl, Nat.le_of_ble_eq_true (by kernel_rfl)⟩
theorem cok106 : Try.prog.funcs[106]? = some Try.f106 ∧ (Try.f106.name == "runtime.NumGoroutine") = false ∧ (prg.fi 106).nt ≤ Try.f106.ntmps := ⟨Try.func106, by kernel_rfl, Nat.le_of_ble_eq_true (by kernel_rfl)⟩
theorem cok107 : Try.prog.funcs[107]? = some Try.f107 ∧ (Try.f107.name == "runtime.NumGoroutine") = false ∧ (prg.fi 107).nt ≤ Try.f107.ntmps := ⟨Try.func107, by kernel_rfl, Nat.le_of_ble_eq_true (by kernel_rfl)⟩
theorem cok108 : Try.prog.funcs[108]? = some Try.f108 ∧ (Try.f108.name == "runtime.NumGoroutine") = false ∧ (prg.fi 108).nt ≤ Try.f108.ntmps := ⟨Try.func108, by kernel_rfl, Nat.le_of_ble_eq_true (by kernel_rfl)⟩
theorem cok109 : Try.prog.funcs[109]? = some Try.f109 ∧ (Try.f109.name == "runtime.NumGoroutine") = false ∧ (prg.fi 109).nt ≤ Try.f109.ntmps := ⟨Try.func109, by kernel_rfl, Nat.le_of_ble_eq_true (by kernel_rfl)⟩
theorem cok110 : Try.prog.funcs[110]? = some Try.f110 ∧ (Try.f110.name == "runtime.NumGoroutine") = false ∧ (prg.fi 110).nt ≤ Try.f110.ntmps := ⟨Try.func110, by kernel_rfl, Nat.le_of_ble_eq_true (by kernel_rfl)⟩
theorem cok111 : Try.prog.funcs[111]? = some Try.f111 ∧ (Try.f111.name == "runtime.NumGoroutine") = false ∧ (prg.fi 111).nt ≤ Try.f111.ntmps := ⟨Try.func111, by kernel_rfl, Nat.le_of_ble_eq_true (by kernel_rfl)⟩
theorem cok112 : Try.prog.funcs[112]? = some Try.f112 ∧ (Try.f112.name == "runtime.NumGoroutine") = false ∧ (prg.fi 112).nt ≤ Try.f112.ntmps := ⟨Try.func112, by kernel_rfl, Nat.le_of_ble_eq_true (by kernel_rfl)⟩
theorem cok113 : Try.prog.funcs[113]? = some Try.f113 ∧ (Try.f113.name == "runtime.NumGoroutine") = false ∧ (prg.fi 113).nt ≤ Try.f113.ntmps := ⟨Try.func113, by kernel_rfl, Nat.le_of_ble_eq_true (by kernel_rfl)⟩
theorem cok114 : Try.prog.funcs[114]? = some Try.f114 ∧ (Try.f114.name == "runtime.NumGoroutine") = false ∧ (prg.fi 114).nt ≤ Try.f114.ntmps := ⟨Try.func114, by kernel_rfl, Nat.le_of_ble_eq_true (by kernel_rfl)⟩
theorem cok115 : Try.prog.funcs[115]? = some Try.f115 ∧ (Try.f115.name == "runtime.NumGoroutine") = false ∧ (prg.fi 115).nt ≤ Try.f115.ntmps := ⟨Try.func115, by kernel_rfl, Nat.le_of_ble_eq_true (by kernel_rfl)⟩
theorem codesR : codesOk Try.prog prg.fi 0 codeL := ⟨cok3, ⟨cok4, ⟨cok5, ⟨cok6, ⟨cok7, ⟨cok8, ⟨cok9, ⟨cok10, ⟨cok11, ⟨cok12, ⟨cok13, ⟨cok14, ⟨cok15, ⟨cok16, ⟨cok17, ⟨cok18, ⟨cok19, ⟨cok20, ⟨cok21, ⟨cok22, ⟨cok23, ⟨cok24, ⟨cok25, ⟨cok26, ⟨cok27, ⟨cok28, ⟨cok29, ⟨cok30, ⟨cok31, ⟨cok32, ⟨cok33, ⟨cok34, ⟨cok35, ⟨cok36, ⟨cok37, ⟨cok38, ⟨cok39, ⟨cok40, ⟨cok41, ⟨cok42, ⟨cok43, ⟨cok44, ⟨cok45, ⟨cok46, ⟨cok47, ⟨cok48, ⟨cok49, ⟨cok50, ⟨cok51, ⟨cok52, ⟨cok53, ⟨cok54, ⟨cok55, ⟨cok56, ⟨cok57, ⟨cok58, ⟨cok59, ⟨cok60, ⟨cok61, ⟨cok62, ⟨cok63, ⟨cok64, ⟨cok65, ⟨cok66, ⟨cok67, ⟨cok68, ⟨cok69, ⟨cok70, ⟨cok71, ⟨cok72, ⟨cok73, ⟨cok74, ⟨cok75, ⟨cok76, ⟨cok77, ⟨cok78, ⟨cok79, ⟨cok80, ⟨cok81, ⟨cok82, ⟨cok83, ⟨cok84, ⟨cok85, ⟨cok86, ⟨cok87, ⟨cok88, ⟨cok89, ⟨cok90, ⟨cok91, ⟨cok92, ⟨cok93, ⟨cok94, ⟨cok95, ⟨cok96, ⟨cok97, ⟨cok98, ⟨cok99, ⟨cok100, ⟨cok101, ⟨cok102, ⟨cok103, ⟨cok104, ⟨cok105, ⟨cok106, ⟨cok107, ⟨cok108, ⟨cok109, ⟨cok110, ⟨cok111, ⟨cok112, ⟨cok113, ⟨cok114, ⟨cok115, trivial⟩⟩⟩⟩⟩⟩⟩⟩⟩⟩⟩⟩⟩⟩⟩⟩⟩⟩⟩⟩⟩⟩⟩⟩⟩⟩⟩⟩⟩⟩⟩⟩⟩⟩⟩⟩⟩⟩⟩⟩⟩⟩⟩⟩⟩⟩⟩⟩⟩⟩⟩⟩⟩⟩⟩⟩⟩⟩⟩⟩⟩⟩⟩⟩⟩⟩⟩⟩⟩⟩⟩⟩⟩⟩⟩⟩⟩⟩⟩⟩⟩⟩⟩⟩⟩⟩⟩⟩⟩⟩⟩⟩⟩⟩⟩⟩⟩⟩⟩⟩⟩⟩⟩⟩⟩⟩⟩⟩⟩⟩⟩⟩⟩
theorem prgR : PrgOK Try.prog prg where
  tab := tabR
  code := fun f fn h => by
    have h' : codeL[f]? = some (some fn) := by
      have h2 : (codeL[f]?).getD none = some fn := h
      cases hx : codeL[f]? with
      | none => rw [hx] at h2; cases h2
      | some x => rw [hx] at h2; exact congrArg some h2
    have := codesOk_get codesR f fn h'
    simpa using this
  prim := fun f q h => by
    have h' : primF f = some q := h
    unfold primF at h'
    split at h'
    · rename_i e; subst e; cases h'; exact clone_ok (t := 23) (e := 3) (b := 4) (i := ⟨1, 8, false, [.int .i64]⟩) tabR Try.func84 (by kernel_rfl) (by kernel_rfl) (by kernel_rfl) (by kernel_rfl) (by kernel_rfl) (by kernel_rfl) (by kernel_rfl)
    split at h'
    · rename_i e; subst e; cases h'; exact clone_ok (t := 27) (e := 112) (b := 4) (i := ⟨3, 24, true, [.int .i64, .int .i64, .int .i64]⟩) tabR Try.func101 (by kernel_rfl) (by kernel_rfl) (by kernel_rfl) (by kernel_rfl) (by kernel_rfl) (by kernel_rfl) (by kernel_rfl)
    cases h'
  mix := by kernel_rfl
end Go.Proofs.Ytjfegdlgepbjoaa