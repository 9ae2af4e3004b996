/- The evaluator S and what it says of functions: Ta, V1, V3, V6, Vd, V2, Tf, V7. -/
import Derived.Test.YtfjbclgbpdlkgaaTe
import Derived.Test.YtfjbclgbpdlkgaaTc
import Derived.Test.YtfjbclgbpdlkgaaSb
/- The evaluator S: the tables of this seat are right (by the kernel). -/
namespace Go.Proofs.Ytfjbclgbpdlkgaa
open Go
set_option maxRecDepth 100000
theorem tabR : TabOk Try.prog tab := tab_ok (by kernel_rfl) (by kernel_rfl) (by kernel_rfl)
def Zr (P : Program) (fis : Nat → FnI) : Nat → List (Option Func) → Prop
  | _, [] => True
  | k, none :: l => Zr P fis (k + 1) l
  | k, some fn :: l => (P.funcs[k]? = some fn ∧ (fn.name == "runtime.NumGoroutine") = false ∧ (fis k).nt ≤ fn.ntmps) ∧ Zr P fis (k + 1) l
theorem Zs {P : Program} {fis : Nat → FnI} : ∀ {l : List (Option Func)} {k : Nat}, Zr P fis k l → ∀ (f : Nat) (fn : Func), l[f]? = some (some fn) → P.funcs[k + f]? = some fn ∧ (fn.name == "runtime.NumGoroutine") = false ∧ (fis (k + f)).nt ≤ fn.ntmps
  | [], _, _, f, fn, h => by simp at h
  | x :: l, k, hc, f, fn, h => by
    cases f with
    | zero =>
      simp at h; subst h
      exact hc.1
    | succ f =>
      have hl : Zr P fis (k + 1) l := by
        cases x with
        | none => exact hc
        | some g => exact hc.2
      have := Zs hl f fn (by simpa using h)
      rw [show k + (f + 1) = k + 1 + f by omega]; exact this
theorem cok3 : Try.prog.funcs[3]? = some Try.f3 ∧ (Try.f3.name == "runtime.NumGoroutine") = false ∧ (prg.fi 3).nt ≤ Try.f3.ntmps := ⟨Try.func3, by kernel_rfl, Nat.le_of_ble_eq_true (by kernel_rfl)⟩
theorem cok4 : Try.prog.funcs[4]? = some Try.f4 ∧ (Try.f4.name == "runtime.NumGoroutine") = false ∧ (prg.fi 4).nt ≤ Try.f4.ntmps := ⟨Try.func4, by kernel_rfl, Nat.le_of_ble_eq_true (by kernel_rfl)⟩
theorem cok5 : Try.prog.funcs[5]? = some Try.f5 ∧ (Try.f5.name == "runtime.NumGoroutine") = false ∧ (prg.fi 5).nt ≤ Try.f5.ntmps := ⟨Try.func5, by kernel_rfl, Nat.le_of_ble_eq_true (by kernel_rfl)⟩
theorem cok6 : Try.prog.funcs[6]? = some Try.f6 ∧ (Try.f6.name == "runtime.NumGoroutine") = false ∧ (prg.fi 6).nt ≤ Try.f6.ntmps := ⟨Try.func6, by kernel_rfl, Nat.le_of_ble_eq_true (by kernel_rfl)⟩
theorem cok7 : Try.prog.funcs[7]? = some Try.f7 ∧ (Try.f7.name == "runtime.NumGoroutine") = false ∧ (prg.fi 7).nt ≤ Try.f7.ntmps := ⟨Try.func7, by kernel_rfl, Nat.le_of_ble_eq_true (by kernel_rfl)⟩
theorem cok8 : Try.prog.funcs[8]? = some Try.f8 ∧ (Try.f8.name == "runtime.NumGoroutine") = false ∧ (prg.fi 8).nt ≤ Try.f8.ntmps := ⟨Try.func8, by kernel_rfl, Nat.le_of_ble_eq_true (by kernel_rfl)⟩
theorem cok9 : Try.prog.funcs[9]? = some Try.f9 ∧ (Try.f9.name == "runtime.NumGoroutine") = false ∧ (prg.fi 9).nt ≤ Try.f9.ntmps := ⟨Try.func9, by kernel_rfl, Nat.le_of_ble_eq_true (by kernel_rfl)⟩
theorem cok10 : Try.prog.funcs[10]? = some Try.f10 ∧ (Try.f10.name == "runtime.NumGoroutine") = false ∧ (prg.fi 10).nt ≤ Try.f10.ntmps := ⟨Try.func10, by kernel_rfl, Nat.le_of_ble_eq_true (by kernel_rfl)⟩
theorem cok11 : Try.prog.funcs[11]? = some Try.f11 ∧ (Try.f11.name == "runtime.NumGoroutine") = false ∧ (prg.fi 11).nt ≤ Try.f11.ntmps := ⟨Try.func11, by kernel_rfl, Nat.le_of_ble_eq_true (by kernel_rfl)⟩
theorem cok12 : Try.prog.funcs[12]? = some Try.f12 ∧ (Try.f12.name == "runtime.NumGoroutine") = false ∧ (prg.fi 12).nt ≤ Try.f12.ntmps := ⟨Try.func12, by kernel_rfl, Nat.le_of_ble_eq_true (by kernel_rfl)⟩
theorem cok13 : Try.prog.funcs[13]? = some Try.f13 ∧ (Try.f13.name == "runtime.NumGoroutine") = false ∧ (prg.fi 13).nt ≤ Try.f13.ntmps := ⟨Try.func13, by kernel_rfl, Nat.le_of_ble_eq_true (by kernel_rfl)⟩
theorem cok14 : Try.prog.funcs[14]? = some Try.f14 ∧ (Try.f14.name == "runtime.NumGoroutine") = false ∧ (prg.fi 14).nt ≤ Try.f14.ntmps := ⟨Try.func14, by kernel_rfl, Nat.le_of_ble_eq_true (by kernel_rfl)⟩
theorem cok15 : Try.prog.funcs[15]? = some Try.f15 ∧ (Try.f15.name == "runtime.NumGoroutine") = false ∧ (prg.fi 15).nt ≤ Try.f15.ntmps := ⟨Try.func15, by kernel_rfl, Nat.le_of_ble_eq_true (by kernel_rfl)⟩
theorem cok16 : Try.prog.funcs[16]? = some Try.f16 ∧ (Try.f16.name == "runtime.NumGoroutine") = false ∧ (prg.fi 16).nt ≤ Try.f16.ntmps := ⟨Try.func16, by kernel_rfl, Nat.le_of_ble_eq_true (by kernel_rfl)⟩
theorem cok17 : Try.prog.funcs[17]? = some Try.f17 ∧ (Try.f17.name == "runtime.NumGoroutine") = false ∧ (prg.fi 17).nt ≤ Try.f17.ntmps := ⟨Try.func17, by kernel_rfl, Nat.le_of_ble_eq_true (by kernel_rfl)⟩
theorem cok18 : Try.prog.funcs[18]? = some Try.f18 ∧ (Try.f18.name == "runtime.NumGoroutine") = false ∧ (prg.fi 18).nt ≤ Try.f18.ntmps := ⟨Try.func18, by kernel_rfl, Nat.le_of_ble_eq_true (by kernel_rfl)⟩
theorem cok19 : Try.prog.funcs[19]? = some Try.f19 ∧ (Try.f19.name == "runtime.NumGoroutine") = false ∧ (prg.fi 19).nt ≤ Try.f19.ntmps := ⟨Try.func19, by kernel_rfl, Nat.le_of_ble_eq_true (by kernel_rfl)⟩
theorem cok20 : Try.prog.funcs[20]? = some Try.f20 ∧ (Try.f20.name == "runtime.NumGoroutine") = false ∧ (prg.fi 20).nt ≤ Try.f20.ntmps := ⟨Try.func20, by kernel_rfl, Nat.le_of_ble_eq_true (by kernel_rfl)⟩
theorem cok21 : Try.prog.funcs[21]? = some Try.f21 ∧ (Try.f21.name == "runtime.NumGoroutine") = false ∧ (prg.fi 21).nt ≤ Try.f21.ntmps := ⟨Try.func21, by kernel_rfl, Nat.le_of_ble_eq_true (by kernel_rfl)⟩
theorem cok22 : Try.prog.funcs[22]? = some Try.f22 ∧ (Try.f22.name == "runtime.NumGoroutine") = false ∧ (prg.fi 22).nt ≤ Try.f22.ntmps := ⟨Try.func22, by kernel_rfl, Nat.le_of_ble_eq_true (by kernel_rfl)⟩
theorem cok23 : Try.prog.funcs[23]? = some Try.f23 ∧ (Try.f23.name == "runtime.NumGoroutine") = false ∧ (prg.fi 23).nt ≤ Try.f23.ntmps := ⟨Try.func23, by kernel_rfl, Nat.le_of_ble_eq_true (by kernel_rfl)⟩
theorem cok24 : Try.prog.funcs[24]? = some Try.f24 ∧ (Try.f24.name == "runtime.NumGoroutine") = false ∧ (prg.fi 24).nt ≤ Try.f24.ntmps := ⟨Try.func24, by kernel_rfl, Nat.le_of_ble_eq_true (by kernel_rfl)⟩
theorem cok25 : Try.prog.funcs[25]? = some Try.f25 ∧ (Try.f25.name == "runtime.NumGoroutine") = false ∧ (prg.fi 25).nt ≤ Try.f25.ntmps := ⟨Try.func25, by kernel_rfl, Nat.le_of_ble_eq_true (by kernel_rfl)⟩
theorem cok26 : Try.prog.funcs[26]? = some Try.f26 ∧ (Try.f26.name == "runtime.NumGoroutine") = false ∧ (prg.fi 26).nt ≤ Try.f26.ntmps := ⟨Try.func26, by kernel_rfl, Nat.le_of_ble_eq_true (by kernel_rfl)⟩
theorem cok27 : Try.prog.funcs[27]? = some Try.f27 ∧ (Try.f27.name == "runtime.NumGoroutine") = false ∧ (prg.fi 27).nt ≤ Try.f27.ntmps := ⟨Try.func27, by kernel_rfl, Nat.le_of_ble_eq_true (by kernel_rfl)⟩
theorem cok28 : Try.prog.funcs[28]? = some Try.f28 ∧ (Try.f28.name == "runtime.NumGoroutine") = false ∧ (prg.fi 28).nt ≤ Try.f28.ntmps := ⟨Try.func28, by kernel_rfl, Nat.le_of_ble_eq_true (by kernel_rfl)⟩
theorem cok29 : Try.prog.funcs[29]? = some Try.f29 ∧ (Try.f29.name == "runtime.NumGoroutine") = false ∧ (prg.fi 29).nt ≤ Try.f29.ntmps := ⟨Try.func29, by kernel_rfl, Nat.le_of_ble_eq_true (by kernel_rfl)⟩
theorem cok30 : Try.prog.funcs[30]? = some Try.f30 ∧ (Try.f30.name == "runtime.NumGoroutine") = false ∧ (prg.fi 30).nt ≤ Try.f30.ntmps := ⟨Try.func30, by kernel_rfl, Nat.le_of_ble_eq_true (by kernel_rfl)⟩
theorem cok31 : Try.prog.funcs[31]? = some Try.f31 ∧ (Try.f31.name == "runtime.NumGoroutine") = false ∧ (prg.fi 31).nt ≤ Try.f31.ntmps := ⟨Try.func31, by kernel_rfl, Nat.le_of_ble_eq_true (by kernel_rfl)⟩
theorem cok32 : Try.prog.funcs[32]? = some Try.f32 ∧ (Try.f32.name == "runtime.NumGoroutine") = false ∧ (prg.fi 32).nt ≤ Try.f32.ntmps := ⟨Try.func32, by kernel_rfl, Nat.le_of_ble_eq_true (by kernel_rfl)⟩
theorem cok33 : Try.prog.funcs[33]? = some Try.f33 ∧ (Try.f33.name == "runtime.NumGoroutine") = false ∧ (prg.fi 33).nt ≤ Try.f33.ntmps := ⟨Try.func33, by kernel_rfl, Nat.le_of_ble_eq_true (by kernel_rfl)⟩
theorem cok34 : Try.prog.funcs[34]? = some Try.f34 ∧ (Try.f34.name == "runtime.NumGoroutine") = false ∧ (prg.fi 34).nt ≤ Try.f34.ntmps := ⟨Try.func34, by kernel_rfl, Nat.le_of_ble_eq_true (by kernel_rfl)⟩
theorem cok35 : Try.prog.funcs[35]? = some Try.f35 ∧ (Try.f35.name == "runtime.NumGoroutine") = false ∧ (prg.fi 35).nt ≤ Try.f35.ntmps := ⟨Try.func35, by kernel_rfl, Nat.le_of_ble_eq_true (by kernel_rfl)⟩
theorem cok36 : Try.prog.funcs[36]? = some Try.f36 ∧ (Try.f36.name == "runtime.NumGoroutine") = false ∧ (prg.fi 36).nt ≤ Try.f36.ntmps := ⟨Try.func36, by kernel_rfl, Nat.le_of_ble_eq_true (by kernel_rfl)⟩
theorem cok37 : Try.prog.funcs[37]? = some Try.f37 ∧ (Try.f37.name == "runtime.NumGoroutine") = false ∧ (prg.fi 37).nt ≤ Try.f37.ntmps := ⟨Try.func37, by kernel_rfl, Nat.le_of_ble_eq_true (by kernel_rfl)⟩
theorem cok38 : Try.prog.funcs[38]? = some Try.f38 ∧ (Try.f38.name == "runtime.NumGoroutine") = false ∧ (prg.fi 38).nt ≤ Try.f38.ntmps := ⟨Try.func38, by kernel_rfl, Nat.le_of_ble_eq_true (by kernel_rfl)⟩
theorem cok39 : Try.prog.funcs[39]? = some Try.f39 ∧ (Try.f39.name == "runtime.NumGoroutine") = false ∧ (prg.fi 39).nt ≤ Try.f39.ntmps := ⟨Try.func39, by kernel_rfl, Nat.le_of_ble_eq_true (by kernel_rfl)⟩
theorem cok40 : Try.prog.funcs[40]? = some Try.f40 ∧ (Try.f40.name == "runtime.NumGoroutine") = false ∧ (prg.fi 40).nt ≤ Try.f40.ntmps := ⟨Try.func40, by kernel_rfl, Nat.le_of_ble_eq_true (by kernel_rfl)⟩
theorem cok41 : Try.prog.funcs[41]? = some Try.f41 ∧ (Try.f41.name == "runtime.NumGoroutine") = false ∧ (prg.fi 41).nt ≤ Try.f41.ntmps := ⟨Try.func41, by kernel_rfl, Nat.le_of_ble_eq_true (by kernel_rfl)⟩
theorem cok42 : Try.prog.funcs[42]? = some Try.f42 ∧ (Try.f42.name == "runtime.NumGoroutine") = false ∧ (prg.fi 42).nt ≤ Try.f42.ntmps := ⟨Try.func42, by kernel_rfl, Nat.le_of_ble_eq_true (by kernel_rfl)⟩
theorem cok43 : Try.prog.funcs[43]? = some Try.f43 ∧ (Try.f43.name == "runtime.NumGoroutine") = false ∧ (prg.fi 43).nt ≤ Try.f43.ntmps := ⟨Try.func43, by kernel_rfl, Nat.le_of_ble_eq_true (by kernel_rfl)⟩
theorem cok44 : Try.prog.funcs[44]? = some Try.f44 ∧ (Try.f44.name == "runtime.NumGoroutine") = false ∧ (prg.fi 44).nt ≤ Try.f44.ntmps := ⟨Try.func44, by kernel_rfl, Nat.le_of_ble_eq_true (by kernel_rfl)⟩
theorem cok45 : Try.prog.funcs[45]? = some Try.f45 ∧ (Try.f45.name == "runtime.NumGoroutine") = false ∧ (prg.fi 45).nt ≤ Try.f45.ntmps := ⟨Try.func45, by kernel_rfl, Nat.le_of_ble_eq_true (by kernel_rfl)⟩
theorem cok46 : Try.prog.funcs[46]? = some Try.f46 ∧ (Try.f46.name == "runtime.NumGoroutine") = false ∧ (prg.fi 46).nt ≤ Try.f46.ntmps := ⟨Try.func46, by kernel_rfl, Nat.le_of_ble_eq_true (by kernel_rfl)⟩
theorem cok47 : Try.prog.funcs[47]? = some Try.f47 ∧ (Try.f47.name == "runtime.NumGoroutine") = false ∧ (prg.fi 47).nt ≤ Try.f47.ntmps := ⟨Try.func47, by kernel_rfl, Nat.le_of_ble_eq_true (by kernel_rfl)⟩
theorem cok48 : Try.prog.funcs[48]? = some Try.f48 ∧ (Try.f48.name == "runtime.NumGoroutine") = false ∧ (prg.fi 48).nt ≤ Try.f48.ntmps := ⟨Try.func48, by kernel_rfl, Nat.le_of_ble_eq_true (by kernel_rfl)⟩
theorem cok49 : Try.prog.funcs[49]? = some Try.f49 ∧ (Try.f49.name == "runtime.NumGoroutine") = false ∧ (prg.fi 49).nt ≤ Try.f49.ntmps := ⟨Try.func49, by kernel_rfl, Nat.le_of_ble_eq_true (by kernel_rfl)⟩
theorem cok50 : Try.prog.funcs[50]? = some Try.f50 ∧ (Try.f50.name == "runtime.NumGoroutine") = false ∧ (prg.fi 50).nt ≤ Try.f50.ntmps := ⟨Try.func50, by kernel_rfl, Nat.le_of_ble_eq_true (by kernel_rfl)⟩
theorem cok51 : Try.prog.funcs[51]? = some Try.f51 ∧ (Try.f51.name == "runtime.NumGoroutine") = false ∧ (prg.fi 51).nt ≤ Try.f51.ntmps := ⟨Try.func51, by kernel_rfl, Nat.le_of_ble_eq_true (by kernel_rfl)⟩
theorem cok52 : Try.prog.funcs[52]? = some Try.f52 ∧ (Try.f52.name == "runtime.NumGoroutine") = false ∧ (prg.fi 52).nt ≤ Try.f52.ntmps := ⟨Try.func52, by kernel_rfl, Nat.le_of_ble_eq_true (by kernel_rfl)⟩
theorem cok53 : Try.prog.funcs[53]? = some Try.f53 ∧ (Try.f53.name == "runtime.NumGoroutine") = false ∧ (prg.fi 53).nt ≤ Try.f53.ntmps := ⟨Try.func53, by kernel_rfl, Nat.le_of_ble_eq_true (by kernel_rfl)⟩
theorem cok54 : Try.prog.funcs[54]? = some Try.f54 ∧ (Try.f54.name == "runtime.NumGoroutine") = false ∧ (prg.fi 54).nt ≤ Try.f54.ntmps := ⟨Try.func54, by kernel_rfl, Nat.le_of_ble_eq_true (by kernel_rfl)⟩
theorem cok55 : Try.prog.funcs[55]? = some Try.f55 ∧ (Try.f55.name == "runtime.NumGoroutine") = false ∧ (prg.fi 55).nt ≤ Try.f55.ntmps := ⟨Try.func55, by kernel_rfl, Nat.le_of_ble_eq_true (by kernel_rfl)⟩
theorem cok56 : Try.prog.funcs[56]? = some Try.f56 ∧ (Try.f56.name == "runtime.NumGoroutine") = false ∧ (prg.fi 56).nt ≤ Try.f56.ntmps := ⟨Try.func56, by kernel_rfl, Nat.le_of_ble_eq_true (by kernel_rfl)⟩
theorem cok57 : Try.prog.funcs[57]? = some Try.f57 ∧ (Try.f57.name == "runtime.NumGoroutine") = false ∧ (prg.fi 57).nt ≤ Try.f57.ntmps := ⟨Try.func57, by kernel_rfl, Nat.le_of_ble_eq_true (by kernel_rfl)⟩
theorem cok58 : Try.prog.funcs[58]? = some Try.f58 ∧ (Try.f58.name == "runtime.NumGoroutine") = false ∧ (prg.fi 58).nt ≤ Try.f58.ntmps := ⟨Try.func58, by kernel_rfl, Nat.le_of_ble_eq_true (by kernel_rfl)⟩
theorem cok59 : Try.prog.funcs[59]? = some Try.f59 ∧ (Try.f59.name == "runtime.NumGoroutine") = false ∧ (prg.fi 59).nt ≤ Try.f59.ntmps := ⟨Try.func59, by kernel_rfl, Nat.le_of_ble_eq_true (by kernel_rfl)⟩
theorem cok60 : Try.prog.funcs[60]? = some Try.f60 ∧ (Try.f60.name == "runtime.NumGoroutine") = false ∧ (prg.fi 60).nt ≤ Try.f60.ntmps := ⟨Try.func60, by kernel_rfl, Nat.le_of_ble_eq_true (by kernel_rfl)⟩
theorem cok61 : Try.prog.funcs[61]? = some Try.f61 ∧ (Try.f61.name == "runtime.NumGoroutine") = false ∧ (prg.fi 61).nt ≤ Try.f61.ntmps := ⟨Try.func61, by kernel_rfl, Nat.le_of_ble_eq_true (by kernel_rfl)⟩
theorem cok62 : Try.prog.funcs[62]? = some Try.f62 ∧ (Try.f62.name == "runtime.NumGoroutine") = false ∧ (prg.fi 62).nt ≤ Try.f62.ntmps := ⟨Try.func62, by kernel_rfl, Nat.le_of_ble_eq_true (by kernel_rfl)⟩
theorem cok63 : Try.prog.funcs[63]? = some Try.f63 ∧ (Try.f63.name == "runtime.NumGoroutine") = false ∧ (prg.fi 63).nt ≤ Try.f63.ntmps := ⟨Try.func63, by kernel_rfl, Nat.le_of_ble_eq_true (by kernel_rfl)⟩
theorem cok64 : Try.prog.funcs[64]? = some Try.f64 ∧ (Try.f64.name == "runtime.NumGoroutine") = false ∧ (prg.fi 64).nt ≤ Try.f64.ntmps := ⟨Try.func64, by kernel_rfl, Nat.le_of_ble_eq_true (by kernel_rfl)⟩
theorem cok65 : Try.prog.funcs[65]? = some Try.f65 ∧ (Try.f65.name == "runtime.NumGoroutine") = false ∧ (prg.fi 65).nt ≤ Try.f65.ntmps := ⟨Try.func65, by kernel_rfl, Nat.le_of_ble_eq_true (by kernel_rfl)⟩
theorem cok66 : Try.prog.funcs[66]? = some Try.f66 ∧ (Try.f66.name == "runtime.NumGoroutine") = false ∧ (prg.fi 66).nt ≤ Try.f66.ntmps := ⟨Try.func66, by kernel_rfl, Nat.le_of_ble_eq_true (by kernel_rfl)⟩
theorem cok67 : Try.prog.funcs[67]? = some Try.f67 ∧ (Try.f67.name == "runtime.NumGoroutine") = false ∧ (prg.fi 67).nt ≤ Try.f67.ntmps := ⟨Try.func67, by kernel_rfl, Nat.le_of_ble_eq_true (by kernel_rfl)⟩
theorem cok68 : Try.prog.funcs[68]? = some Try.f68 ∧ (Try.f68.name == "runtime.NumGoroutine") = false ∧ (prg.fi 68).nt ≤ Try.f68.ntmps := ⟨Try.func68, by kernel_rfl, Nat.le_of_ble_eq_true (by kernel_rfl)⟩
theorem cok69 : Try.prog.funcs[69]? = some Try.f69 ∧ (Try.f69.name == "runtime.NumGoroutine") = false ∧ (prg.fi 69).nt ≤ Try.f69.ntmps := ⟨Try.func69, by kernel_rfl, Nat.le_of_ble_eq_true (by kernel_rfl)⟩
theorem cok70 : Try.prog.funcs[70]? = some Try.f70 ∧ (Try.f70.name == "runtime.NumGoroutine") = false ∧ (prg.fi 70).nt ≤ Try.f70.ntmps := ⟨Try.func70, by kernel_rfl, Nat.le_of_ble_eq_true (by kernel_rfl)⟩
theorem cok71 : Try.prog.funcs[71]? = some Try.f71 ∧ (Try.f71.name == "runtime.NumGoroutine") = false ∧ (prg.fi 71).nt ≤ Try.f71.ntmps := ⟨Try.func71, by kernel_rfl, Nat.le_of_ble_eq_true (by kernel_rfl)⟩
theorem cok72 : Try.prog.funcs[72]? = some Try.f72 ∧ (Try.f72.name == "runtime.NumGoroutine") = false ∧ (prg.fi 72).nt ≤ Try.f72.ntmps := ⟨Try.func72, by kernel_rfl, Nat.le_of_ble_eq_true (by kernel_rfl)⟩
theorem cok73 : Try.prog.funcs[73]? = some Try.f73 ∧ (Try.f73.name == "runtime.NumGoroutine") = false ∧ (prg.fi 73).nt ≤ Try.f73.ntmps := ⟨Try.func73, by kernel_rfl, Nat.le_of_ble_eq_true (by kernel_rfl)⟩
theorem cok74 : Try.prog.funcs[74]? = some Try.f74 ∧ (Try.f74.name == "runtime.NumGoroutine") = false ∧ (prg.fi 74).nt ≤ Try.f74.ntmps := ⟨Try.func74, by kernel_rfl, Nat.le_of_ble_eq_true (by kernel_rfl)⟩
theorem cok75 : Try.prog.funcs[75]? = some Try.f75 ∧ (Try.f75.name == "runtime.NumGoroutine") = false ∧ (prg.fi 75).nt ≤ Try.f75.ntmps := ⟨Try.func75, by kernel_rfl, Nat.le_of_ble_eq_true (by kernel_rfl)⟩
theorem cok76 : Try.prog.funcs[76]? = some Try.f76 ∧ (Try.f76.name == "runtime.NumGoroutine") = false ∧ (prg.fi 76).nt ≤ Try.f76.ntmps := ⟨Try.func76, by kernel_rfl, Nat.le_of_ble_eq_true (by kernel_rfl)⟩
theorem cok77 : Try.prog.funcs[77]? = some Try.f77 ∧ (Try.f77.name == "runtime.NumGoroutine") = false ∧ (prg.fi 77).nt ≤ Try.f77.ntmps := ⟨Try.func77, by kernel_rfl, Nat.le_of_ble_eq_true (by kernel_rfl)⟩
theorem cok78 : Try.prog.funcs[78]? = some Try.f78 ∧ (Try.f78.name == "runtime.NumGoroutine") = false ∧ (prg.fi 78).nt ≤ Try.f78.ntmps := ⟨Try.func78, by kernel_rfl, Nat.le_of_ble_eq_true (by kernel_rfl)⟩
theorem cok79 : Try.prog.funcs[79]? = some Try.f79 ∧ (Try.f79.name == "runtime.NumGoroutine") = false ∧ (prg.fi 79).nt ≤ Try.f79.ntmps := ⟨Try.func79, by kernel_rfl, Nat.le_of_ble_eq_true (by kernel_rfl)⟩
theorem cok80 : Try.prog.funcs[80]? = some Try.f80 ∧ (Try.f80.name == "runtime.NumGoroutine") = false ∧ (prg.fi 80).nt ≤ Try.f80.ntmps := ⟨Try.func80, by kernel_rfl, Nat.le_of_ble_eq_true (by kernel_rfl)⟩
theorem cok81 : Try.prog.funcs[81]? = some Try.f81 ∧ (Try.f81.name == "runtime.NumGoroutine") = false ∧ (prg.fi 81).nt ≤ Try.f81.ntmps := ⟨Try.func81, by kernel_rfl, Nat.le_of_ble_eq_true (by kernel_rfl)⟩
theorem cok82 : Try.prog.funcs[82]? = some Try.f82 ∧ (Try.f82.name == "runtime.NumGoroutine") = false ∧ (prg.fi 82).nt ≤ Try.f82.ntmps := ⟨Try.func82, by kernel_rfl, Nat.le_of_ble_eq_true (by kernel_rfl)⟩
theorem cok83 : Try.prog.funcs[83]? = some Try.f83 ∧ (Try.f83.name == "runtime.NumGoroutine") = false ∧ (prg.fi 83).nt ≤ Try.f83.ntmps := ⟨Try.func83, by kernel_rfl, Nat.le_of_ble_eq_true (by kernel_rfl)⟩
theorem cok84 : Try.prog.funcs[84]? = some Try.f84 ∧ (Try.f84.name == "runtime.NumGoroutine") = false ∧ (prg.fi 84).nt ≤ Try.f84.ntmps := ⟨Try.func84, by kernel_rfl, Nat.le_of_ble_eq_true (by kernel_rfl)⟩
theorem cok85 : Try.prog.funcs[85]? = some Try.f85 ∧ (Try.f85.name == "runtime.NumGoroutine") = false ∧ (prg.fi 85).nt ≤ Try.f85.ntmps := ⟨Try.func85, by kernel_rfl, Nat.le_of_ble_eq_true (by kernel_rfl)⟩
theorem cok86 : Try.prog.funcs[86]? = some Try.f86 ∧ (Try.f86.name == "runtime.NumGoroutine") = false ∧ (prg.fi 86).nt ≤ Try.f86.ntmps := ⟨Try.func86, by kernel_rfl, Nat.le_of_ble_eq_true (by kernel_rfl)⟩
theorem cok87 : Try.prog.funcs[87]? = some Try.f87 ∧ (Try.f87.name == "runtime.NumGoroutine") = false ∧ (prg.fi 87).nt ≤ Try.f87.ntmps := ⟨Try.func87, by kernel_rfl, Nat.le_of_ble_eq_true (by kernel_rfl)⟩
theorem cok88 : Try.prog.funcs[88]? = some Try.f88 ∧ (Try.f88.name == "runtime.NumGoroutine") = false ∧ (prg.fi 88).nt ≤ Try.f88.ntmps := ⟨Try.func88, by kernel_rfl, Nat.le_of_ble_eq_true (by kernel_rfl)⟩
theorem cok89 : Try.prog.funcs[89]? = some Try.f89 ∧ (Try.f89.name == "runtime.NumGoroutine") = false ∧ (prg.fi 89).nt ≤ Try.f89.ntmps := ⟨Try.func89, by kernel_rfl, Nat.le_of_ble_eq_true (by kernel_rfl)⟩
theorem cok90 : Try.prog.funcs[90]? = some Try.f90 ∧ (Try.f90.name == "runtime.NumGoroutine") = false ∧ (prg.fi 90).nt ≤ Try.f90.ntmps := ⟨Try.func90, by kernel_rfl, Nat.le_of_ble_eq_true (by kernel_rfl)⟩
theorem cok91 : Try.prog.funcs[91]? = some Try.f91 ∧ (Try.f91.name == "runtime.NumGoroutine") = false ∧ (prg.fi 91).nt ≤ Try.f91.ntmps := ⟨Try.func91, by kernel_rfl, Nat.le_of_ble_eq_true (by kernel_rfl)⟩
theorem cok92 : Try.prog.funcs[92]? = some Try.f92 ∧ (Try.f92.name == "runtime.NumGoroutine") = false ∧ (prg.fi 92).nt ≤ Try.f92.ntmps := ⟨Try.func92, by kernel_rfl, Nat.le_of_ble_eq_true (by kernel_rfl)⟩
theorem cok93 : Try.prog.funcs[93]? = some Try.f93 ∧ (Try.f93.name == "runtime.NumGoroutine") = false ∧ (prg.fi 93).nt ≤ Try.f93.ntmps := ⟨Try.func93, by kernel_rfl, Nat.le_of_ble_eq_true (by kernel_rfl)⟩
theorem cok94 : Try.prog.funcs[94]? = some Try.f94 ∧ (Try.f94.name == "runtime.NumGoroutine") = false ∧ (prg.fi 94).nt ≤ Try.f94.ntmps := ⟨Try.func94, by kernel_rfl, Nat.le_of_ble_eq_true (by kernel_rfl)⟩
theorem cok95 : Try.prog.funcs[95]? = some Try.f95 ∧ (Try.f95.name == "runtime.NumGoroutine") = false ∧ (prg.fi 95).nt ≤ Try.f95.ntmps := ⟨Try.func95, by kernel_rfl, Nat.le_of_ble_eq_true (by kernel_rfl)⟩
theorem cok96 : Try.prog.funcs[96]? = some Try.f96 ∧ (Try.f96.name == "runtime.NumGoroutine") = false ∧ (prg.fi 96).nt ≤ Try.f96.ntmps := ⟨Try.func96, by kernel_rfl, Nat.le_of_ble_eq_true (by kernel_rfl)⟩
theorem cok97 : Try.prog.funcs[97]? = some Try.f97 ∧ (Try.f97.name == "runtime.NumGoroutine") = false ∧ (prg.fi 97).nt ≤ Try.f97.ntmps := ⟨Try.func97, by kernel_rfl, Nat.le_of_ble_eq_true (by kernel_rfl)⟩
theorem cok98 : Try.prog.funcs[98]? = some Try.f98 ∧ (Try.f98.name == "runtime.NumGoroutine") = false ∧ (prg.fi 98).nt ≤ Try.f98.ntmps := ⟨Try.func98, by kernel_rfl, Nat.le_of_ble_eq_true (by kernel_rfl)⟩
theorem cok99 : Try.prog.funcs[99]? = some Try.f99 ∧ (Try.f99.name == "runtime.NumGoroutine") = false ∧ (prg.fi 99).nt ≤ Try.f99.ntmps := ⟨Try.func99, by kernel_rfl, Nat.le_of_ble_eq_true (by kernel_rfl)⟩
theorem cok100 : Try.prog.funcs[100]? = some Try.f100 ∧ (Try.f100.name == "runtime.NumGoroutine") = false ∧ (prg.fi 100).nt ≤ Try.f100.ntmps := ⟨Try.func100, by kernel_rfl, Nat.le_of_ble_eq_true (by kernel_rfl)⟩
theorem cok101 : Try.prog.funcs[101]? = some Try.f101 ∧ (Try.f101.name == "runtime.NumGoroutine") = false ∧ (prg.fi 101).nt ≤ Try.f101.ntmps := ⟨Try.func101, by kernel_rfl, Nat.le_of_ble_eq_true (by kernel_rfl)⟩
theorem cok102 : Try.prog.funcs[102]? = some Try.f102 ∧ (Try.f102.name == "runtime.NumGoroutine") = false ∧ (prg.fi 102).nt ≤ Try.f102.ntmps := ⟨Try.func102, by kernel_rfl, Nat.le_of_ble_eq_true (by kernel_rfl)⟩
theorem cok103 : Try.prog.funcs[103]? = some Try.f103 ∧ (Try.f103.name == "runtime.NumGoroutine") = false ∧ (prg.fi 103).nt ≤ Try.f103.ntmps := ⟨Try.func103, by kernel_rfl, Nat.le_of_ble_eq_true (by kernel_rfl)⟩
theorem cok104 : Try.prog.funcs[104]? = some Try.f104 ∧ (Try.f104.name == "runtime.NumGoroutine") = false ∧ (prg.fi 104).nt ≤ Try.f104.ntmps := ⟨Try.func104, by kernel_rfl, Nat.le_of_ble_eq_true (by kernel_rfl)⟩
theorem cok105 : Try.prog.funcs[105]? = some Try.f105 ∧ (Try.f105.name == "runtime.NumGoroutine") = false ∧ (prg.fi 105).nt ≤ Try.f105.ntmps := ⟨Try.func105, by kernel_rfl, Nat.le_of_ble_eq_true (by kernel_rfl)⟩
theorem cok106 : Try.prog.funcs[106]? = some Try.f106 ∧ (Try.f106.name == "runtime.NumGoroutine") = false ∧ (prg.fi 106).nt ≤ Try.f106.ntmps := ⟨Try.func106, by kernel_rfl, Nat.le_of_ble_eq_true (by kernel_rfl)⟩
theorem cok107 : Try.prog.funcs[107]? = some Try.f107 ∧ (Try.f107.name == "runtime.NumGoroutine") = false ∧ (prg.fi 107).nt ≤ Try.f107.ntmps := ⟨Try.func107, by kernel_rfl, Nat.le_of_ble_eq_true (by kernel_rfl)⟩
theorem cok108 : Try.prog.funcs[108]? = some Try.f108 ∧ (Try.f108.name == "runtime.NumGoroutine") = false ∧ (prg.fi 108).nt ≤ Try.f108.ntmps := ⟨Try.func108, by kernel_rfl, Nat.le_of_ble_eq_true (by kernel_rfl)⟩
theorem cok109 : Try.prog.funcs[109]? = some Try.f109 ∧ (Try.f109.name == "runtime.NumGoroutine") = false ∧ (prg.fi 109).nt ≤ Try.f109.ntmps := ⟨Try.func109, by kernel_rfl, Nat.le_of_ble_eq_true (by kernel_rfl)⟩
theorem cok110 : Try.prog.funcs[110]? = some Try.f110 ∧ (Try.f110.name == "runtime.NumGoroutine") = false ∧ (prg.fi 110).nt ≤ Try.f110.ntmps := ⟨Try.func110, by kernel_rfl, Nat.le_of_ble_eq_true (by kernel_rfl)⟩
theorem cok111 : Try.prog.funcs[111]? = some Try.f111 ∧ (Try.f111.name == "runtime.NumGoroutine") = false ∧ (prg.fi 111).nt ≤ Try.f111.ntmps := ⟨Try.func111, by kernel_rfl, Nat.le_of_ble_eq_true (by kernel_rfl)⟩
theorem cok112 : Try.prog.funcs[112]? = some Try.f112 ∧ (Try.f112.name == "runtime.NumGoroutine") = false ∧ (prg.fi 112).nt ≤ Try.f112.ntmps := ⟨Try.func112, by kernel_rfl, Nat.le_of_ble_eq_true (by kernel_rfl)⟩
theorem cok113 : Try.prog.funcs[113]? = some Try.f113 ∧ (Try.f113.name == "runtime.NumGoroutine") = false ∧ (prg.fi 113).nt ≤ Try.f113.ntmps := ⟨Try.func113, by kernel_rfl, Nat.le_of_ble_eq_true (by kernel_rfl)⟩
theorem cok114 : Try.prog.funcs[114]? = some Try.f114 ∧ (Try.f114.name == "runtime.NumGoroutine") = false ∧ (prg.fi 114).nt ≤ Try.f114.ntmps := ⟨Try.func114, by kernel_rfl, Nat.le_of_ble_eq_true (by kernel_rfl)⟩
theorem cok115 : Try.prog.funcs[115]? = some Try.f115 ∧ (Try.f115.name == "runtime.NumGoroutine") = false ∧ (prg.fi 115).nt ≤ Try.f115.ntmps := ⟨Try.func115, by kernel_rfl, Nat.le_of_ble_eq_true (by kernel_rfl)⟩
theorem cok116 : Try.prog.funcs[116]? = some Try.f116 ∧ (Try.f116.name == "runtime.NumGoroutine") = false ∧ (prg.fi 116).nt ≤ Try.f116.ntmps := ⟨Try.func116, by kernel_rfl, Nat.le_of_ble_eq_true (by kernel_rfl)⟩
theorem cok117 : Try.prog.funcs[117]? = some Try.f117 ∧ (Try.f117.name == "runtime.NumGoroutine") = false ∧ (prg.fi 117).nt ≤ Try.f117.ntmps := ⟨Try.func117, by kernel_rfl, Nat.le_of_ble_eq_true (by kernel_rfl)⟩
theorem cok118 : Try.prog.funcs[118]? = some Try.f118 ∧ (Try.f118.name == "runtime.NumGoroutine") = false ∧ (prg.fi 118).nt ≤ Try.f118.ntmps := ⟨Try.func118, by kernel_rfl, Nat.le_of_ble_eq_true (by kernel_rfl)⟩
theorem codesR : Zr Try.prog prg.fi 0 qdw := ⟨cok3, ⟨cok4, ⟨cok5, ⟨cok6, ⟨cok7, ⟨cok8, ⟨cok9, ⟨cok10, ⟨cok11, ⟨cok12, ⟨cok13, ⟨cok14, ⟨cok15, ⟨cok16, ⟨cok17, ⟨cok18, ⟨cok19, ⟨cok20, ⟨cok21, ⟨cok22, ⟨cok23, ⟨cok24, ⟨cok25, ⟨cok26, ⟨cok27, ⟨cok28, ⟨cok29, ⟨cok30, ⟨cok31, ⟨cok32, ⟨cok33, ⟨cok34, ⟨cok35, ⟨cok36, ⟨cok37, ⟨cok38, ⟨cok39, ⟨cok40, ⟨cok41, ⟨cok42, ⟨cok43, ⟨cok44, ⟨cok45, ⟨cok46, ⟨cok47, ⟨cok48, ⟨cok49, ⟨cok50, ⟨cok51, ⟨cok52, ⟨cok53, ⟨cok54, ⟨cok55, ⟨cok56, ⟨cok57, ⟨cok58, ⟨cok59, ⟨cok60, ⟨cok61, ⟨cok62, ⟨cok63, ⟨cok64, ⟨cok65, ⟨cok66, ⟨cok67, ⟨cok68, ⟨cok69, ⟨cok70, ⟨cok71, ⟨cok72, ⟨cok73, ⟨cok74, ⟨cok75, ⟨cok76, ⟨cok77, ⟨cok78, ⟨cok79, ⟨cok80, ⟨cok81, ⟨cok82, ⟨cok83, ⟨cok84, ⟨cok85, ⟨cok86, ⟨cok87, ⟨cok88, ⟨cok89, ⟨cok90, ⟨cok91, ⟨cok92, ⟨cok93, ⟨cok94, ⟨cok95, ⟨cok96, ⟨cok97, ⟨cok98, ⟨cok99, ⟨cok100, ⟨cok101, ⟨cok102, ⟨cok103, ⟨cok104, ⟨cok105, ⟨cok106, ⟨cok107, ⟨cok108, ⟨cok109, ⟨cok110, ⟨cok111, ⟨cok112, ⟨cok113, ⟨cok114, ⟨cok115, ⟨cok116, ⟨cok117, ⟨cok118, trivial⟩⟩⟩⟩⟩⟩⟩⟩⟩⟩⟩⟩⟩⟩⟩⟩⟩⟩⟩⟩⟩⟩⟩⟩⟩⟩⟩⟩⟩⟩⟩⟩⟩⟩⟩⟩⟩⟩⟩⟩⟩⟩⟩⟩⟩⟩⟩⟩⟩⟩⟩⟩⟩⟩⟩⟩⟩⟩⟩⟩⟩⟩⟩⟩⟩⟩⟩⟩⟩⟩⟩⟩⟩⟩⟩⟩⟩⟩⟩⟩⟩⟩⟩⟩⟩⟩⟩⟩⟩⟩⟩⟩⟩⟩⟩⟩⟩⟩⟩⟩⟩⟩⟩⟩⟩⟩⟩⟩⟩⟩⟩⟩⟩⟩⟩⟩
theorem qcp : PrgOK Try.prog prg where
  tab := tabR
  code := fun f fn h => by
    have h' : qdw[f]? = some (some fn) := by
      have h2 : (qdw[f]?).getD none = some fn := h
      cases hx : qdw[f]? with
      | none => rw [hx] at h2; cases h2
      | some x => rw [hx] at h2; exact congrArg some h2
    have := Zs codesR f fn h'
    simpa using this
  prim := fun f q h => by
    have h' : qjj f = some q := h
    unfold qjj at h'
    split at h'
    · rename_i e; subst e; cases h'; exact Wf (t := 24) (e := 3) (b := 4) (i := ⟨1, 8, false, [.int .i64]⟩) tabR Try.func83 (by kernel_rfl) (by kernel_rfl) (by kernel_rfl) (by kernel_rfl) (by kernel_rfl) (by kernel_rfl) (by kernel_rfl)
    split at h'
    · rename_i e; subst e; cases h'; exact Wf (t := 45) (e := 68) (b := 4) (i := ⟨2, 16, true, [.int .i64, .int .i64]⟩) tabR Try.func108 (by kernel_rfl) (by kernel_rfl) (by kernel_rfl) (by kernel_rfl) (by kernel_rfl) (by kernel_rfl) (by kernel_rfl)
    split at h'
    · rename_i e; subst e; cases h'; exact Wf (t := 44) (e := 43) (b := 4) (i := ⟨2, 16, true, [.int .i64, .int .i64]⟩) tabR Try.func109 (by kernel_rfl) (by kernel_rfl) (by kernel_rfl) (by kernel_rfl) (by kernel_rfl) (by kernel_rfl) (by kernel_rfl)
    cases h'
  mix := by kernel_rfl
end Go.Proofs.Ytfjbclgbpdlkgaa
/- What the functions of the kit give: the range, the reader of a code. -/
namespace Go.Proofs.Ytfjbclgbpdlkgaa
open Go
set_option linter.unusedVariables false
set_option linter.unusedSimpArgs false
theorem KB (n lo hi : Int) : Ex (fun m => qd prg m 62 [iI n, iI lo, iI hi] []) (bB (decide (lo ≤ n ∧ n ≤ hi))) [] := by
  refine zz.1 (U62 (nl := 0) rfl ?_)
  unfold B62
  repeat' (first|((with_reducible refine eG ?_);first|(with_reducible first|refine qX ?_|refine qY ?_|refine qZ ?_|refine q4 ?_|refine zm ?_)|refine qe rfl ?_|refine qb rfl ?_|((with_reducible refine zn ?_ ?_)<;>intro h))|((with_reducible refine eB ?_);first|((with_reducible first|refine xk ?_ ?_|refine wk ?_ ?_)<;>intro h<;>try (exfalso;omega))|refine qe rfl ?_|refine qb rfl ?_)|((with_reducible refine eD ?_);first|refine qe rfl ?_|refine qb rfl ?_|((with_reducible refine qC ?_ ?_)<;>intro h))|refine qq rfl ?_)
  all_goals exact ⟨by simp <;> omega, rfl⟩
theorem s_in (n lo hi : Int) : Ex (fun m => qd prg m 51 [iI n, iI lo, iI hi] []) (bB (decide (lo ≤ n ∧ n ≤ hi))) [] := by
  refine zz.1 (U51 (nl := 0) rfl ?_)
  unfold B51
  repeat' (first|((with_reducible refine eG ?_);first|(with_reducible first|refine qX ?_|refine qY ?_|refine qZ ?_|refine q4 ?_|refine zm ?_)|refine qe rfl ?_|refine qb rfl ?_|((with_reducible refine zn ?_ ?_)<;>intro h))|((with_reducible refine eB ?_);first|((with_reducible first|refine xk ?_ ?_|refine wk ?_ ?_)<;>intro h<;>try (exfalso;omega))|refine qe rfl ?_|refine qb rfl ?_)|((with_reducible refine eD ?_);first|refine qe rfl ?_|refine qb rfl ?_|((with_reducible refine qC ?_ ?_)<;>intro h))|refine qq rfl ?_)
  all_goals exact ⟨by simp <;> omega, rfl⟩
theorem qab (n : Int) : Ex (fun m => qd prg m 110 [iI n] []) (bB (decide (1 ≤ n ∧ n ≤ 4))) [] := by
  refine zz.1 (U110 (nl := 0) rfl ?_)
  unfold B110
  repeat' (first|((with_reducible refine eC ?_);first|((refine zw (s_in ..) rfl rfl ?_ rfl rfl ?_ ?_);(focus first|exact .inl rfl|exact .inr rfl|(refine .inr ?_;simp [qo,qm,qh,qg,SO.hasSl,List.all_map,qi,SV.cells,Function.comp_def];done));(all_goals (intro h));(all_goals (try (exfalso;first|omega|exact h rfl|exact h ⟨rfl,rfl,rfl⟩)))))|((with_reducible refine eD ?_);first|refine qe rfl ?_|refine qb rfl ?_)|refine qq rfl ?_)
  all_goals exact ⟨by simp <;> omega, rfl⟩
theorem qeR (n : Int) : Ex (fun m => qd prg m 111 [iI n] []) (bB (decide (1 ≤ n ∧ n ≤ 5))) [] := by
  refine zz.1 (U111 (nl := 0) rfl ?_)
  unfold B111
  repeat' (first|((with_reducible refine eC ?_);first|((refine zw (s_in ..) rfl rfl ?_ rfl rfl ?_ ?_);(focus first|exact .inl rfl|exact .inr rfl|(refine .inr ?_;simp [qo,qm,qh,qg,SO.hasSl,List.all_map,qi,SV.cells,Function.comp_def];done));(all_goals (intro h));(all_goals (try (exfalso;first|omega|exact h rfl|exact h ⟨rfl,rfl,rfl⟩)))))|((with_reducible refine eD ?_);first|refine qe rfl ?_|refine qb rfl ?_)|refine qq rfl ?_)
  all_goals exact ⟨by simp <;> omega, rfl⟩
def qk5 : SV → List SO → Prop := fun x _ => x = .v (.bool true)
theorem wM {k : Nat} {args : List SV} (h : Ev (fun n => qd prg n k args []) qk5) : ∃ n los, qd prg n k args [] = some (.v (.bool true), los) := by
  obtain ⟨x, os, rfl, n0, h0⟩ := h
  exact ⟨n0, os, h0 n0 (Nat.le_refl _)⟩
structure RdOK (b : List Int) : Prop where
  by_ : ∀ i, 0 ≤ nth b i ∧ nth b i < 256
  len : b.length ≤ 2000
theorem kV {b : List Int} {p : Int} (hb : RdOK b) (hp : 0 ≤ p ∧ p < 1000000000) (n : Int) (hn : n < 1000000000) :
    ∃ x, ((1 ≤ n → 0 ≤ x ∧ x < n) ∧ (n < 1 → x = 0)) ∧ Ex (fun m => qd prg m 43 [.ptr 0 0, iI n] [rd b p]) (iI x) [rd b (p + 1)] := by
  have key : Ev (fun m => qd prg m 43 [.ptr 0 0, iI n] [rd b p]) (fun x os => ∃ v, x = iI v ∧ os = [rd b (p + 1)] ∧ (1 ≤ n → 0 ≤ v ∧ v < n) ∧ (n < 1 → v = 0)) := by
    obtain ⟨hby, hlen⟩ := hb
    refine U43 (nl := 1) rfl ?_
    unfold B43
    repeat' (first|((with_reducible refine eG ?_);first|(with_reducible first|refine qX ?_|refine qY ?_|refine qZ ?_|refine q4 ?_|refine zm ?_)|refine qe rfl ?_|refine qb rfl ?_|((with_reducible refine zn ?_ ?_)<;>intro h))|((with_reducible refine eB ?_);first|((with_reducible first|refine zf ?_ ?_|refine zr ?_ ?_)<;>intro h<;>try (exfalso;omega))|((with_reducible first|refine zi ?_ ?_|refine kG ?_ ?_|refine JO ?_ ?_);· omega)|((with_reducible refine W8 ?_ ?_ ?_);(·omega);(·omega);intro x hx hx0 hx1)|((with_reducible refine jx ?_ ?_);(·omega);intro x hx hx0 hx1)|(((with_reducible refine ev_xor ?_ ?_ ?_);(·omega);(·omega);intro x hx0 hx1))|refine qe rfl ?_|refine qb rfl ?_)|((with_reducible refine eL ?_);first|((with_reducible refine qI ?_ ?_);· rfl)|refine qy rfl rfl ?_|refine qz rfl rfl rfl ?_|refine qJ rfl rfl ?_|refine qH rfl rfl ?_|refine qK rfl ?_|refine qe rfl ?_|refine qb rfl ?_)|((with_reducible refine eI ?_);first|((with_reducible refine q9 ?_ ?_ ?_);(·rfl);· omega)|(refine qS rfl rfl ?_ ?_;(·first|omega|(simp only [List.length_cons,List.length_nil,List.length_map,List.length_append];omega)))|refine qe rfl ?_|refine qb rfl ?_)|((with_reducible refine eV ?_);first|(((with_reducible refine qgp ?_ ?_ ?_ ?_);(·rfl);(·rfl);(·exact hby _);intro hy0 hy1))|((with_reducible refine Zk ?_ ?_ ?_ ?_);(·rfl);(·rfl);· omega)|refine qe rfl ?_|refine qb rfl ?_)|((with_reducible refine eK ?_);first|(with_reducible first|refine qT ?_|refine qU ?_)|((with_reducible refine qr ?_ ?_)<;>intro h))|((with_reducible refine eO ?_);first|refine qe rfl ?_|(refine qB rfl ?_ ?_<;>intro h<;>try (exfalso;simp_all;done))|refine qb rfl ?_)|((with_reducible refine eD ?_);first|refine qe rfl ?_|refine qb rfl ?_|((with_reducible refine qC ?_ ?_)<;>intro h))|refine qq rfl ?_)
    all_goals first | exact ⟨_, rfl, rfl, by omega, by omega⟩ | trace_state
  obtain ⟨x, os, ⟨v, rfl, rfl, h1, h2⟩, he⟩ := key
  exact ⟨v, ⟨h1, h2⟩, he⟩
end Go.Proofs.Ytfjbclgbpdlkgaa

/- Roots and indexes: what is ok, and what is the same. -/
namespace Go.Proofs.Ytfjbclgbpdlkgaa
open Go
set_option linter.unusedVariables false
set_option linter.unusedSimpArgs false
set_option maxHeartbeats 4000000
structure TRoot where
  num : Int
  keys : List Int
  need : Int
  deriving Inhabited, DecidableEq
structure TMeta where
  name : Int
  ver : Int
  sum : Int
  deriving Inhabited, DecidableEq
structure TIndex where
  num : Int
  til : Int
  metas : List TMeta
  deriving Inhabited, DecidableEq
structure TTrust where
  root : TRoot
  has : Bool
  index : TIndex
  deriving Inhabited, DecidableEq
abbrev qhg (m : TMeta) : SV := .ag [iI m.name, iI m.ver, iI m.sum]
def qk6 (l : List Int) (i : Nat) : Prop := 1 ≤ nth l i ∧ nth l i ≤ 6 ∧ (0 < i → nth l (i - 1) < nth l i)
instance (l : List Int) (i : Nat) : Decidable (qk6 l i) := by unfold qk6; exact inferInstance
def keysOk (l : List Int) : Bool := decide (∀ i, i < l.length → qk6 l i)
def rootOk (num : Int) (keys : List Int) (need : Int) : Bool := decide (1 ≤ num ∧ num ≤ 9) && keysOk keys && decide (1 ≤ need ∧ need ≤ keys.length)
theorem qbL (a b : List Int) (hl : a.length = b.length) (h47 : a.length ≤ 140737488355328) : ∀ i, i ≤ a.length → (∀ j, j < i → nth a j = nth b j) → ∀ (k : Int) (c : Nat), k = i →
    Ev (fun n => qaS (qd prg n) (n + 1) 0 (n + 1 - c) (.sl 1 (a.map iI)) (.sl 1 (b.map iI)) (iI k) []) (Is (bB (decide (a = b))) []) := by
  refine zC ?_
  intro i hi ih hp k c hk
  subst hk
  (refine UL20_4 ?_; unfold qdB)
  repeat' (first|((with_reducible refine eB ?_);first|((with_reducible first|refine zf ?_ ?_|refine kb ?_ ?_)<;>intro h<;>try (exfalso;omega))|((with_reducible refine zi ?_ ?_);· omega)|refine qe rfl ?_|refine qb rfl ?_)|((with_reducible refine eL ?_);first|((with_reducible refine qI ?_ ?_);· rfl)|refine qy rfl rfl ?_|refine qz rfl rfl rfl ?_|refine qJ rfl rfl ?_|refine qH rfl rfl ?_|refine qK rfl ?_|refine qe rfl ?_|refine qb rfl ?_)|((with_reducible refine eI ?_);first|((with_reducible refine q9 ?_ ?_ ?_);(·rfl);· omega)|(refine qS rfl rfl ?_ ?_;(·first|omega|(simp only [List.length_cons,List.length_nil,List.length_map,List.length_append];omega)))|refine qe rfl ?_|refine qb rfl ?_)|((with_reducible refine eK ?_);first|(with_reducible first|refine qT ?_|refine qU ?_)|((with_reducible refine qr ?_ ?_)<;>intro h))|((with_reducible refine eO ?_);first|refine qe rfl ?_|(refine qB rfl ?_ ?_<;>intro h<;>try (exfalso;simp_all;done))|refine qb rfl ?_)|((with_reducible refine eD ?_);first|refine qe rfl ?_|refine qb rfl ?_)|((with_reducible refine ih ?_ (zR hp ?_) _ _ ?_)<;>(first|omega|assumption|(simp only [*,List.map_append,List.length_append,List.length_cons,List.length_nil,List.map_cons,List.map_nil];done)|(simp_all;done)|(simp_all;omega)))|refine qq rfl ?_)
  · refine ⟨congrArg bB (Eq.symm (decide_eq_false fun e => ?_)), rfl⟩
    subst e; simp_all
  · exact ⟨congrArg bB (Eq.symm (decide_eq_true (yH hl fun j hj => hp j (by omega)))), rfl⟩
theorem Wm (a b : List Int) (h47 : a.length ≤ 140737488355328) : Ex (fun m => qd prg m 20 [.sl 1 (a.map iI), .sl 1 (b.map iI)] []) (bB (decide (a = b))) [] := by
  refine zz.1 ?_
  (refine U20 (nl := 0) rfl ?_; unfold B20)
  repeat' (first|((with_reducible refine eB ?_);first|((with_reducible refine kb ?_ ?_)<;>intro h<;>try (exfalso;omega))|refine qe rfl ?_|refine qb rfl ?_)|((with_reducible refine eL ?_);first|((with_reducible refine qI ?_ ?_);· rfl)|refine qy rfl rfl ?_|refine qz rfl rfl rfl ?_|refine qJ rfl rfl ?_|refine qH rfl rfl ?_|refine qK rfl ?_|refine qe rfl ?_|refine qb rfl ?_)|((with_reducible refine eK ?_);first|(with_reducible first|refine qT ?_|refine qU ?_)|((with_reducible refine qr ?_ ?_)<;>intro h))|((with_reducible refine eD ?_);first|refine qe rfl ?_|refine qb rfl ?_)|( exact qbL a b (by omega) h47 0 (by omega) (fun j hj => by omega) 0 0 rfl)|refine qq rfl ?_)
  refine ⟨congrArg bB (Eq.symm (decide_eq_false fun e => ?_)), rfl⟩
  subst e; simp_all
def qk7 (a b : TMeta) : Prop := a.name < b.name ∨ a.name = b.name ∧ a.ver < b.ver
instance (a b : TMeta) : Decidable (qk7 a b) := by unfold qk7; exact inferInstance
def qeS (l : List TMeta) (i : Nat) : Prop := (1 ≤ (nth l i).name ∧ (nth l i).name ≤ 4) ∧ (1 ≤ (nth l i).ver ∧ (nth l i).ver ≤ 5) ∧ (0 ≤ (nth l i).sum ∧ (nth l i).sum ≤ 9972) ∧ (0 < i → qk7 (nth l (i - 1)) (nth l i))
instance (l : List TMeta) (i : Nat) : Decidable (qeS l i) := by unfold qeS; exact inferInstance
def qk8 (l : List TMeta) : Bool := decide (∀ i, i < l.length → qeS l i)
def qeT (num til : Int) (ms : List TMeta) : Bool := decide (1 ≤ num ∧ num ≤ 30) && decide (0 ≤ til ∧ til ≤ 60) && decide (ms.length ≤ 8) && qk8 ms
theorem qhh (n v m w : Int) : Ex (fun k => qd prg k 107 [iI n, iI v, iI m, iI w] []) (bB (decide (n < m ∨ n = m ∧ v < w))) [] := by
  refine zz.1 ?_
  (refine U107 (nl := 0) rfl ?_; unfold B107)
  repeat' (first|((with_reducible refine eG ?_);first|(with_reducible first|refine qX ?_|refine qY ?_|refine qZ ?_|refine q4 ?_|refine zm ?_)|refine qe rfl ?_|refine qb rfl ?_|((with_reducible refine zn ?_ ?_)<;>intro h))|((with_reducible refine eB ?_);first|((with_reducible first|refine zf ?_ ?_|refine zr ?_ ?_)<;>intro h<;>try (exfalso;omega))|refine qe rfl ?_|refine qb rfl ?_)|((with_reducible refine eD ?_);first|refine qe rfl ?_|refine qb rfl ?_|((with_reducible refine qC ?_ ?_)<;>intro h))|refine qq rfl ?_)
  all_goals (refine ⟨congrArg (fun b => SV.v (Value.bool b)) ?_, rfl⟩; first | (simp_all []; done) | (simp_all []; omega) | (simp [] at *; omega) | (simp []; omega) | grind [] | trace_state)
def trustOk (t : TTrust) : Bool := rootOk t.root.num t.root.keys t.root.need && (if t.has = true then qeT t.index.num t.index.til t.index.metas else decide (t.index.num = 0 ∧ t.index.til = 0 ∧ t.index.metas = []))
abbrev aTrust (t : TTrust) : SV := .ag [iI t.root.num, .sl 1 (t.root.keys.map iI), iI t.root.need, bB t.has, iI t.index.num, iI t.index.til, .sl 3 (t.index.metas.map qhg)]
abbrev rTrust (t : TTrust) : SV := .ag [iI t.root.num, .osl 0, iI t.root.need, bB t.has, iI t.index.num, iI t.index.til, .osl 1]
abbrev oTrust (t : TTrust) : List SO := [.arr false 1 (t.root.keys.map iI), .arr false 3 (t.index.metas.map qhg)]
structure TLen (t : TTrust) : Prop where
  k : t.root.keys.length ≤ 2000000
  m : t.index.metas.length ≤ 2000000
theorem qbM (l : List Int) (h47 : l.length ≤ 17592186044416) : Ex (fun m => qd prg m 83 [.sl 1 (l.map iI)] []) (.osl 0) [.arr false 1 (l.map iI)] := by
  refine ⟨1, fun n hn => ?_⟩
  obtain ⟨n, rfl⟩ : ∃ m, n = m + 1 := ⟨n - 1, by omega⟩
  show qd prg (n + 1) _ _ _ = _
  rw [E83]
  simp only [xd, List.length_map]
  rw [if_pos ⟨.inr trivial, by omega, by omega⟩]
end Go.Proofs.Ytfjbclgbpdlkgaa

/- Packages, as data; drawn packages. -/
namespace Go.Proofs.Ytfjbclgbpdlkgaa
open Go
set_option linter.unusedVariables false
set_option linter.unusedSimpArgs false
set_option maxHeartbeats 4000000
structure TFile where
  path : Int
  data : Int
  deriving Inhabited, DecidableEq
structure TDep where
  name : Int
  least : Int
  deriving Inhabited, DecidableEq
structure TPkg where
  name : Int
  ver : Int
  files : List TFile
  deps : List TDep
  deriving Inhabited, DecidableEq
abbrev wq (f : TFile) : SV := .ag [iI f.path, iI f.data]
abbrev je (d : TDep) : SV := .ag [iI d.name, iI d.least]
abbrev zh (p : TPkg) : SV := .ag [iI p.name, iI p.ver, .sl 2 (p.files.map wq), .sl 2 (p.deps.map je)]
abbrev rPkg (p : TPkg) (j k : Nat) : SV := .ag [iI p.name, iI p.ver, .osl j, .osl k]
abbrev oPkg (p : TPkg) : List SO := [.arr false 2 (p.files.map wq), .arr false 2 (p.deps.map je)]
def jC (D : List TDep) : Prop := ∀ d, d ∈ D → 1 ≤ d.name ∧ d.name ≤ 4
theorem qbN : jC [] := fun d h => by cases h
theorem qbO {D : List TDep} {d : TDep} (h : jC D) (hd : 1 ≤ d.name ∧ d.name ≤ 4) : jC (D ++ [d]) := by
  intro x hx
  rcases List.mem_append.1 hx with h1 | h1
  · exact h x h1
  · rw [List.mem_singleton.1 h1]; exact hd
def QPkg (b : List Int) (p name : Int) : SV → List SO → Prop := fun x os => ∃ (t : TPkg) (q : Int), x = rPkg t 1 2 ∧ os = [rd b q, .arr false 2 (t.files.map wq), .arr false 2 (t.deps.map je)] ∧ t.files.length ≤ 3 ∧ t.deps.length ≤ 3 ∧ p ≤ q ∧ q ≤ p + 30 ∧ t.name = name ∧ jC t.deps
theorem XT {b : List Int} (hb : RdOK b) {p0 : Int} (hp0 : 0 ≤ p0 ∧ p0 < 700000000) (name ver : Int) (F : List TFile) (LF : List SV) (hLF : LF = F.map wq) (hF : F.length ≤ 3) : ∀ i : Nat, i ≤ 4 → ∀ (p k : Int) (D : List TDep) (L : List SV) (c : Nat), k = i + 1 → L = D.map je → D.length ≤ 2 → p0 ≤ p → p ≤ p0 + 10 + 2 * i → jC D →
    Ev (fun n => qbC (qd prg n) (n + 1) 1 (n + 1 - c) [.ptr 0 0, iI name, .ptr 1 0, .ptr 2 0, iI k] [rd b p, .box [iI 0, iI 0, .osl 3, .osl 4], .box [iI name, iI ver, .osl 5, .osl 6], .arr false 2 [], .arr false 2 [], .arr false 2 LF, .arr false 2 L]) (QPkg b p0 name) := by
  refine zC ?_
  intro i hi ih p k D L c hk hL hD h1 h2 hdi
  have hLl : L.length = D.length := by rw [hL, List.length_map]
  (refine UG90_9 _ ?_; unfold qei)
  repeat' (first|((with_reducible refine eG ?_);first|(with_reducible first|refine qX ?_|refine qY ?_|refine qZ ?_|refine q4 ?_|refine zm ?_)|refine qe rfl ?_|refine qb rfl ?_|((with_reducible refine zn ?_ ?_)<;>intro h))|((with_reducible refine eB ?_);first|((with_reducible first|refine zf ?_ ?_|refine xk ?_ ?_|refine zr ?_ ?_|refine kb ?_ ?_)<;>intro h<;>try (exfalso;omega))|((with_reducible refine zi ?_ ?_);· omega)|refine qe rfl ?_|refine qb rfl ?_)|((with_reducible refine eL ?_);first|((with_reducible refine qI ?_ ?_);· rfl)|refine qy rfl rfl ?_|refine qz rfl rfl rfl ?_|refine qJ rfl rfl ?_|refine qH rfl rfl ?_|refine qK rfl ?_|refine qe rfl ?_|refine qb rfl ?_)|((with_reducible refine eC ?_);first|((refine z5 (kV hb (by omega) _ (by omega)) rfl rfl ?_ (fun _ => rfl) ?_);(·first|exact .inl rfl|exact .inr (fun _ => rfl));(first|(have q0 := z3;clear q0;intro z4 hz4)|(have q0 := z2;clear q0;intro z3 hz3)|(have q0 := z;clear q0;intro z2 hz2)|(intro z hz))))|((with_reducible refine eA ?_);first|(refine kU rfl rfl rfl rfl rfl ?_ ?_;· first|decide|(simp only [List.length_append,List.length_cons,List.length_nil,List.length_map,List.length_take,List.length_drop];omega)))|((with_reducible refine eK ?_);first|(with_reducible first|refine qT ?_|refine qU ?_)|((with_reducible refine qr ?_ ?_)<;>intro h))|((with_reducible refine eO ?_);first|refine qe rfl ?_|(refine qB rfl ?_ ?_<;>intro h<;>try (exfalso;simp_all;done))|refine qb rfl ?_|(refine zP rfl rfl rfl ?_ ?_ ?_;(·simp);(·first|omega|(simp only [List.length_cons,List.length_nil,List.length_map,List.length_append];omega));intro w))|((with_reducible refine eD ?_);first|refine qe rfl ?_|refine qb rfl ?_|((with_reducible refine qC ?_ ?_)<;>intro h))|((with_reducible refine zg ?_ ?_);· intro _;rfl)|((with_reducible refine eH ?_);first|refine zA rfl ?_)|((with_reducible refine ih ?_ _ _ (D ++ [⟨k,1 + z2⟩]) _ _ ?_ ?_ ?_ ?_ ?_ ?_)<;>(first|omega|assumption|((refine qbO hdi ?_;dsimp only;omega))|(simp only [*,List.map_append,List.length_append,List.length_cons,List.length_nil,List.map_cons,List.map_nil];done)|(simp_all;done)|(simp_all;omega)))|((with_reducible refine ih ?_ _ _ D _ _ ?_ hL ?_ ?_ ?_ hdi)<;>(first|omega|assumption|(simp only [*,List.map_append,List.length_append,List.length_cons,List.length_nil,List.map_cons,List.map_nil];done)|(simp_all;done)|(simp_all;omega)))|((with_reducible refine qkN ?_);(unfold XF))|(with_reducible first|refine qeI ?_|refine qiA ?_)|refine qq rfl ?_)
  all_goals exact ⟨⟨name, ver, F, D⟩, _, rfl, by rw [hL, hLF], hF, by show D.length ≤ 3; omega, by omega, by omega, rfl, hdi⟩
theorem XU {b : List Int} (hb : RdOK b) {p0 : Int} (hp0 : 0 ≤ p0 ∧ p0 < 700000000) (name ver : Int) : ∀ i : Nat, i ≤ 2 → ∀ (p a k : Int) (F : List TFile) (L : List SV) (c : Nat), k ≤ 2 - i → 0 ≤ a → a ≤ 4 + 3 * i → L = F.map wq → F.length ≤ i → p0 ≤ p → p ≤ p0 + 2 + 2 * i →
    Ev (fun n => qbA (qd prg n) (n + 1) 1 (n + 1 - c) [.ptr 0 0, iI name, .ptr 1 0, .ptr 2 0, iI a, iI k] [rd b p, .box [iI 0, iI 0, .osl 3, .osl 4], .box [iI name, iI ver, .osl 5, .osl 6], .arr false 2 [], .arr false 2 [], .arr false 2 L, .arr false 2 []]) (QPkg b p0 name) := by
  refine zC ?_
  intro i hi ih p a k F L c hk ha0 ha hL hF h1 h2
  have hLl : L.length = F.length := by rw [hL, List.length_map]
  (refine UG90_4 _ ?_; unfold qeh)
  repeat' (first|((with_reducible refine eG ?_);first|(with_reducible first|refine qX ?_|refine qY ?_|refine qZ ?_|refine q4 ?_|refine zm ?_)|refine qe rfl ?_|refine qb rfl ?_|((with_reducible refine zn ?_ ?_)<;>intro h))|((with_reducible refine eB ?_);first|((with_reducible first|refine zf ?_ ?_|refine ka ?_ ?_)<;>intro h<;>try (exfalso;omega))|((with_reducible first|refine zi ?_ ?_|refine kG ?_ ?_);· omega)|refine qe rfl ?_|refine qb rfl ?_)|((with_reducible refine eC ?_);first|((refine z5 (kV hb (by omega) _ (by omega)) rfl rfl ?_ (fun _ => rfl) ?_);(·first|exact .inl rfl|exact .inr (fun _ => rfl));(first|(have q0 := z3;clear q0;intro z4 hz4)|(have q0 := z2;clear q0;intro z3 hz3)|(have q0 := z;clear q0;intro z2 hz2)|(intro z hz))))|((with_reducible refine eA ?_);first|(refine kU rfl rfl rfl rfl rfl ?_ ?_;· first|decide|(simp only [List.length_append,List.length_cons,List.length_nil,List.length_map,List.length_take,List.length_drop];omega)))|((with_reducible refine eK ?_);first|(with_reducible first|refine qT ?_|refine qU ?_)|((with_reducible refine qr ?_ ?_)<;>intro h))|((with_reducible refine eO ?_);first|refine qe rfl ?_|(refine qB rfl ?_ ?_<;>intro h<;>try (exfalso;simp_all;done))|refine qb rfl ?_|(refine zP rfl rfl rfl ?_ ?_ ?_;(·simp);(·first|omega|(simp only [List.length_cons,List.length_nil,List.length_map,List.length_append];omega));intro w))|((with_reducible refine eD ?_);first|refine qe rfl ?_|refine qb rfl ?_|((with_reducible refine qC ?_ ?_)<;>intro h))|((with_reducible refine zg ?_ ?_);· intro _;rfl)|((with_reducible refine eH ?_);first|refine zA rfl ?_)|((with_reducible refine ih ?_ _ _ _ (F ++ [⟨a,z⟩]) _ _ ?_ ?_ ?_ ?_ ?_ ?_ ?_)<;>(first|omega|assumption|(simp only [*,List.map_append,List.length_append,List.length_cons,List.length_nil,List.map_cons,List.map_nil];done)|(simp_all;done)|(simp_all;omega)))|(with_reducible first|refine qeH ?_|refine qiz ?_)|(with_reducible first|refine qeI ?_|refine qiA ?_)|((with_reducible refine XT hb hp0 name ver F _ hL ?_ 0 ?_ _ _ [] _ _ ?_ ?_ ?_ ?_ ?_ qbN)<;>(first|omega|assumption|(simp only [*,List.map_append,List.length_append,List.length_cons,List.length_nil,List.map_cons,List.map_nil];done)|(simp_all;done)|(simp_all;omega)))|refine qq rfl ?_)
theorem qac {b : List Int} (hb : RdOK b) {p : Int} (hp : 0 ≤ p ∧ p < 700000000) (name ver : Int) : Ev (fun m => qd prg m 90 [.ptr 0 0, iI name, iI ver] [rd b p]) (QPkg b p name) := by
  (refine U90 (nl := 1) rfl ?_; unfold B90)
  repeat' (first|((with_reducible refine eC ?_);first|((refine z5 (kV hb (by omega) _ (by omega)) rfl rfl ?_ (fun _ => rfl) ?_);(·first|exact .inl rfl|exact .inr (fun _ => rfl));(first|(have q0 := z3;clear q0;intro z4 hz4)|(have q0 := z2;clear q0;intro z3 hz3)|(have q0 := z;clear q0;intro z2 hz2)|(intro z hz))))|((with_reducible refine eD ?_);first|refine qe rfl ?_|refine qb rfl ?_)|((with_reducible refine eH ?_);first|refine zA rfl ?_)|(with_reducible first|refine qeH ?_|refine qiz ?_)|((with_reducible refine XU hb hp name ver 0 ?_ _ _ _ [] _ _ ?_ ?_ ?_ ?_ ?_ ?_ ?_)<;>(first|omega|assumption|(simp only [*,List.map_append,List.length_append,List.length_cons,List.length_nil,List.map_cons,List.map_nil];done)|(simp_all;done)|(simp_all;omega)))|refine qq rfl ?_)
  all_goals trace_state
def kr (a b : TPkg) : Prop := a.name < b.name ∨ a.name = b.name ∧ a.ver < b.ver
instance (a b : TPkg) : Decidable (kr a b) := by unfold kr; exact inferInstance
def y9 (s : List TPkg) (p : TPkg) : List TPkg := (s.filter fun x => decide (kr x p)) ++ [p] ++ (s.filter fun x => decide (kr p x))
theorem qeU (s : List TPkg) (p : TPkg) : (y9 s p).length ≤ s.length + 1 := by
  have key : ∀ s : List TPkg, (s.filter fun x => decide (kr x p)).length + (s.filter fun x => decide (kr p x)).length ≤ s.length := by
    intro s
    induction s with
    | nil => simp
    | cons x xs ih =>
      by_cases h1 : kr x p
      · have h2 : ¬ kr p x := by unfold kr at *; omega
        simp [h1, h2]; omega
      · by_cases h2 : kr p x
        · simp [h1, h2]; omega
        · simp [h1, h2]; omega
  have := key s
  simp only [y9, List.length_append, List.length_cons, List.length_nil]
  omega
def ZT (x : TPkg) : Prop := x.files.length ≤ 10 ∧ x.deps.length ≤ 10
def kh (s : List TPkg) : Prop := ∀ x, x ∈ s → ZT x
theorem ko : kh [] := fun x h => by cases h
theorem XV {s : List TPkg} {p : TPkg} (hs : kh s) (hp : ZT p) : kh (y9 s p) := by
  intro x hx
  simp only [y9, List.mem_append, List.mem_filter, List.mem_singleton] at hx
  rcases hx with (hx | rfl) | hx
  · exact hs x hx.1
  · exact hp
  · exact hs x hx.1
def wN (s : List TPkg) : Prop := ∀ x, x ∈ s → (1 ≤ x.name ∧ x.name ≤ 4) ∧ jC x.deps
theorem Yo : wN [] := fun x h => by cases h
theorem qbP {s : List TPkg} {p : TPkg} (hs : wN s) (hp : (1 ≤ p.name ∧ p.name ≤ 4) ∧ jC p.deps) : wN (y9 s p) := by
  intro x hx
  simp only [y9, List.mem_append, List.mem_filter, List.mem_singleton] at hx
  rcases hx with (hx | rfl) | hx
  · exact hs x hx.1
  · exact hp
  · exact hs x hx.1
theorem XW (s : List TPkg) (hs : s.length ≤ 2000000) (name ver : Int) : ∀ i, i ≤ s.length → (∀ j, j < i → ¬ ((nth s j).name = name ∧ (nth s j).ver = ver)) → ∀ (k : Int) (c : Nat), k = i →
    Ev (fun n => qbD (qd prg n) (n + 1) 0 (n + 1 - c) (.sl 4 (s.map zh)) (iI name) (iI ver) (iI k) []) (fun x os => ∃ z : Int, x = iI z ∧ os = [] ∧ ((z = -1 ∧ ∀ j, j < s.length → ¬ ((nth s j).name = name ∧ (nth s j).ver = ver)) ∨ (0 ≤ z ∧ z < s.length ∧ (nth s z.toNat).name = name ∧ (nth s z.toNat).ver = ver))) := by
  refine zC ?_
  intro i hi ih hp k c hk
  subst hk
  (refine UL91_2 ?_; unfold qej)
  repeat' (first|((with_reducible refine eG ?_);first|(with_reducible first|refine qX ?_|refine qY ?_|refine qZ ?_|refine q4 ?_|refine zm ?_)|refine qe rfl ?_|refine qb rfl ?_|((with_reducible refine zn ?_ ?_)<;>intro h))|((with_reducible refine eB ?_);first|((with_reducible first|refine zf ?_ ?_|refine zr ?_ ?_)<;>intro h<;>try (exfalso;omega))|((with_reducible refine zi ?_ ?_);· omega)|refine qe rfl ?_|refine qb rfl ?_)|((with_reducible refine eL ?_);first|((with_reducible refine qI ?_ ?_);· rfl)|refine qy rfl rfl ?_|refine qz rfl rfl rfl ?_|refine qJ rfl rfl ?_|refine qH rfl rfl ?_|refine qK rfl ?_|refine qe rfl ?_|refine qb rfl ?_)|((with_reducible refine eI ?_);first|((with_reducible refine q9 ?_ ?_ ?_);(·rfl);· omega)|(refine qS rfl rfl ?_ ?_;(·first|omega|(simp only [List.length_cons,List.length_nil,List.length_map,List.length_append];omega)))|refine qe rfl ?_|refine qb rfl ?_)|((with_reducible refine eK ?_);first|(with_reducible first|refine qT ?_|refine qU ?_)|((with_reducible refine qr ?_ ?_)<;>intro h))|((with_reducible refine eO ?_);first|refine qe rfl ?_|(refine qB rfl ?_ ?_<;>intro h<;>try (exfalso;simp_all;done))|refine qb rfl ?_)|((with_reducible refine eD ?_);first|refine qe rfl ?_|refine qb rfl ?_|((with_reducible refine qC ?_ ?_)<;>intro h))|((with_reducible refine ih ?_ (zR hp ?_) _ _ ?_)<;>(first|omega|assumption|(((try simp only [Int.toNat_natCast,kI,kJ] at *);omega))|(simp only [*,List.map_append,List.length_append,List.length_cons,List.length_nil,List.map_cons,List.map_nil];done)|(simp_all;done)|(simp_all;omega)))|refine qq rfl ?_)
  all_goals first
    | exact ⟨_, rfl, rfl, .inr ⟨by omega, by omega, by omega, by omega⟩⟩
    | exact ⟨_, rfl, rfl, .inl ⟨rfl, fun j hj => hp j (by omega)⟩⟩
    | trace_state
theorem qeV (s : List TPkg) (hs : s.length ≤ 2000000) (name ver : Int) : ∃ z : Int, ((z = -1 ∧ ∀ j, j < s.length → ¬ ((nth s j).name = name ∧ (nth s j).ver = ver)) ∨ (0 ≤ z ∧ z < s.length ∧ (nth s z.toNat).name = name ∧ (nth s z.toNat).ver = ver)) ∧
    Ex (fun m => qd prg m 91 [.sl 4 (s.map zh), iI name, iI ver] []) (iI z) [] := by
  have key : Ev (fun m => qd prg m 91 [.sl 4 (s.map zh), iI name, iI ver] []) (fun x os => ∃ z : Int, x = iI z ∧ os = [] ∧ ((z = -1 ∧ ∀ j, j < s.length → ¬ ((nth s j).name = name ∧ (nth s j).ver = ver)) ∨ (0 ≤ z ∧ z < s.length ∧ (nth s z.toNat).name = name ∧ (nth s z.toNat).ver = ver))) := by
    (refine U91 (nl := 0) rfl ?_; unfold B91)
    exact XW s hs name ver 0 (by omega) (fun j hj => by omega) 0 0 rfl
  obtain ⟨x, os, ⟨z, rfl, rfl, hz⟩, he⟩ := key
  exact ⟨z, hz, he⟩
theorem Yp (n v m w : Int) : Ex (fun k => qd prg k 107 [iI n, iI v, iI m, iI w] []) (bB (decide (n < m ∨ n = m ∧ v < w))) [] := by
  refine zz.1 ?_
  (refine U107 (nl := 0) rfl ?_; unfold B107)
  repeat' (first|((with_reducible refine eG ?_);first|(with_reducible first|refine qX ?_|refine qY ?_|refine qZ ?_|refine q4 ?_|refine zm ?_)|refine qe rfl ?_|refine qb rfl ?_|((with_reducible refine zn ?_ ?_)<;>intro h))|((with_reducible refine eB ?_);first|((with_reducible first|refine zf ?_ ?_|refine zr ?_ ?_)<;>intro h<;>try (exfalso;omega))|refine qe rfl ?_|refine qb rfl ?_)|((with_reducible refine eD ?_);first|refine qe rfl ?_|refine qb rfl ?_|((with_reducible refine qC ?_ ?_)<;>intro h))|refine qq rfl ?_)
  all_goals (refine ⟨congrArg (fun b => SV.v (Value.bool b)) ?_, rfl⟩; first | (simp_all []; done) | (simp_all []; omega) | (simp [] at *; omega) | (simp []; omega) | grind [] | trace_state)
theorem Yq {α : Type} [Inhabited α] (P : α → Bool) {l : List α} {i : Nat} (hi : i < l.length) : (l.take (i + 1)).filter P = (l.take i).filter P ++ (if P (nth l i) = true then [nth l i] else []) := by
  have : l.take (i + 1) = l.take i ++ [nth l i] := by rw [List.take_add_one, w3 hi]; rfl
  rw [this, List.filter_append]
  by_cases e : P (nth l i) = true <;> simp [e]
theorem qad {α : Type} [Inhabited α] (P : α → Bool) {l : List α} {i : Nat} (hi : i < l.length) (h : P (nth l i) = true) : (l.take (i + 1)).filter P = (l.take i).filter P ++ [nth l i] := by
  rw [Yq P hi, if_pos h]
theorem qae {α : Type} [Inhabited α] (P : α → Bool) {l : List α} {i : Nat} (hi : i < l.length) (h : P (nth l i) = false) : (l.take (i + 1)).filter P = (l.take i).filter P := by
  rw [Yq P hi, if_neg (by rw [h]; simp), List.append_nil]
theorem Yr (s : List TPkg) (p : TPkg) (hs : s.length ≤ 2000000) (A : List TPkg) (hA : A.length ≤ 2000001) : ∀ i, i ≤ s.length → ∀ (L : List SV) (k : Int) (c : Nat), k = i → L = (A ++ (s.take i).filter fun x => decide (kr p x)).map zh →
    Ev (fun n => qbH (qd prg n) (n + 1) 0 (n + 1 - c) [.sl 4 (s.map zh), .ptr 0 0, .osl 1, iI k] [.box [iI p.name, iI p.ver, .sl 2 (p.files.map wq), .sl 2 (p.deps.map je)], .arr false 4 L])
      (Is (.osl 0) [.arr false 4 ((A ++ s.filter fun x => decide (kr p x)).map zh)]) := by
  refine zC ?_
  intro i hi ih L k c hk hL
  subst hk
  have hLl : L.length ≤ 5000000 := by
    rw [hL, List.length_map, List.length_append]
    have := List.length_filter_le (fun x => decide (kr p x)) (s.take i)
    have : (s.take i).length ≤ s.length := by simp; omega
    omega
  (refine UG92_9 _ ?_; unfold qem)
  repeat' (first|((with_reducible refine eB ?_);first|((with_reducible refine zf ?_ ?_)<;>intro h<;>try (exfalso;omega))|((with_reducible refine zi ?_ ?_);· omega)|refine qe rfl ?_|refine qb rfl ?_)|((with_reducible refine eL ?_);first|((with_reducible refine qI ?_ ?_);· rfl)|refine qy rfl rfl ?_|refine qz rfl rfl rfl ?_|refine qJ rfl rfl ?_|refine qH rfl rfl ?_|refine qK rfl ?_|refine qe rfl ?_|refine qb rfl ?_)|((with_reducible refine eI ?_);first|((with_reducible refine q9 ?_ ?_ ?_);(·rfl);· omega)|(refine qS rfl rfl ?_ ?_;(·first|omega|(simp only [List.length_cons,List.length_nil,List.length_map,List.length_append];omega)))|refine qe rfl ?_|refine qb rfl ?_)|((with_reducible refine eC ?_);first|((refine zw (Yp ..) rfl rfl ?_ rfl rfl ?_ ?_);(focus first|exact .inl rfl|exact .inr rfl|(refine .inr ?_;simp [qo,qm,qh,qg,SO.hasSl,List.all_map,qi,SV.cells,Function.comp_def];done));(all_goals (intro h));(all_goals (try (exfalso;first|omega|exact h rfl|exact h ⟨rfl,rfl,rfl⟩)))))|((with_reducible refine eA ?_);first|(refine kU rfl rfl rfl rfl rfl ?_ ?_;· first|decide|(simp only [List.length_append,List.length_cons,List.length_nil,List.length_map,List.length_take,List.length_drop];omega)))|((with_reducible refine eK ?_);first|(with_reducible first|refine qT ?_|refine qU ?_)|((with_reducible refine qr ?_ ?_)<;>intro h))|((with_reducible refine eO ?_);first|refine qe rfl ?_|(refine qB rfl ?_ ?_<;>intro h<;>try (exfalso;simp_all;done))|refine qb rfl ?_|(refine zP rfl rfl rfl ?_ ?_ ?_;(·simp);(·first|omega|(simp only [List.length_cons,List.length_nil,List.length_map,List.length_append];omega));intro w))|((with_reducible refine eD ?_);first|refine qe rfl ?_|refine qb rfl ?_)|((with_reducible refine eH ?_);first|refine zA rfl ?_)|((with_reducible refine qkU ?_);(unfold XG))|(with_reducible first|refine qeK ?_|refine qiC ?_)|((with_reducible refine ih ?_ _ _ _ ?_ ?_)<;>(first|omega|assumption|((first|(rw [hL,qae (fun x => decide (kr p x)) (l := s) (i := i) (by omega) (decide_eq_false h)])|(rw [hL,qad (fun x => decide (kr p x)) (l := s) (i := i) (by omega) (decide_eq_true h)];simp only [List.map_append,List.append_assoc,List.map_cons,List.map_nil];rfl)))|(simp only [*,List.map_append,List.length_append,List.length_cons,List.length_nil,List.map_cons,List.map_nil];done)|(simp_all;done)|(simp_all;omega)))|refine qq rfl ?_)
  exact ⟨rfl, by rw [hL, List.take_of_length_le (by omega)]⟩
theorem Ys (s : List TPkg) (p : TPkg) (hs : s.length ≤ 2000000) : ∀ i, i ≤ s.length → ∀ (L : List SV) (k : Int) (c : Nat), k = i → L = ((s.take i).filter fun x => decide (kr x p)).map zh →
    Ev (fun n => qbF (qd prg n) (n + 1) 0 (n + 1 - c) [.sl 4 (s.map zh), .ptr 0 0, .osl 1, iI k] [.box [iI p.name, iI p.ver, .sl 2 (p.files.map wq), .sl 2 (p.deps.map je)], .arr false 4 L])
      (Is (.osl 0) [.arr false 4 ((y9 s p).map zh)]) := by
  refine zC ?_
  intro i hi ih L k c hk hL
  subst hk
  have hFl : ((s.take i).filter fun x => decide (kr x p)).length ≤ 2000000 := by
    have := List.length_filter_le (fun x => decide (kr x p)) (s.take i)
    have : (s.take i).length ≤ s.length := by simp; omega
    omega
  have hLl : L.length ≤ 2000000 := by rw [hL, List.length_map]; exact hFl
  (refine UG92_3 _ ?_; unfold qek)
  repeat' (first|((with_reducible refine eB ?_);first|((with_reducible refine zf ?_ ?_)<;>intro h<;>try (exfalso;omega))|((with_reducible refine zi ?_ ?_);· omega)|refine qe rfl ?_|refine qb rfl ?_)|((with_reducible refine eL ?_);first|((with_reducible refine qI ?_ ?_);· rfl)|refine qy rfl rfl ?_|refine qz rfl rfl rfl ?_|refine qJ rfl rfl ?_|refine qH rfl rfl ?_|refine qK rfl ?_|refine qe rfl ?_|refine qb rfl ?_)|((with_reducible refine eI ?_);first|((with_reducible refine q9 ?_ ?_ ?_);(·rfl);· omega)|(refine qS rfl rfl ?_ ?_;(·first|omega|(simp only [List.length_cons,List.length_nil,List.length_map,List.length_append];omega)))|refine qe rfl ?_|refine qb rfl ?_)|((with_reducible refine eC ?_);first|((refine zw (Yp ..) rfl rfl ?_ rfl rfl ?_ ?_);(focus first|exact .inl rfl|exact .inr rfl|(refine .inr ?_;simp [qo,qm,qh,qg,SO.hasSl,List.all_map,qi,SV.cells,Function.comp_def];done));(all_goals (intro h));(all_goals (try (exfalso;first|omega|exact h rfl|exact h ⟨rfl,rfl,rfl⟩)))))|((with_reducible refine eA ?_);first|(refine kU rfl rfl rfl rfl rfl ?_ ?_;· first|decide|(simp only [List.length_append,List.length_cons,List.length_nil,List.length_map,List.length_take,List.length_drop];omega)))|((with_reducible refine eK ?_);first|(with_reducible first|refine qT ?_|refine qU ?_)|((with_reducible refine qr ?_ ?_)<;>intro h))|((with_reducible refine eO ?_);first|refine qe rfl ?_|(refine qB rfl ?_ ?_<;>intro h<;>try (exfalso;simp_all;done))|refine qb rfl ?_|(refine zP rfl rfl rfl ?_ ?_ ?_;(·simp);(·first|omega|(simp only [List.length_cons,List.length_nil,List.length_map,List.length_append];omega));intro w))|((with_reducible refine eD ?_);first|refine qe rfl ?_|refine qb rfl ?_)|((with_reducible refine eH ?_);first|refine zA rfl ?_)|((with_reducible refine UJ92_4 ?_);(unfold qel))|(with_reducible first|refine qeJ ?_|refine qiB ?_)|(with_reducible first|refine qeK ?_|refine qiC ?_)|((with_reducible refine ih ?_ _ _ _ ?_ ?_)<;>(first|omega|assumption|((first|(rw [hL,qae (fun x => decide (kr x p)) (l := s) (i := i) (by omega) (decide_eq_false h)])|(rw [hL,qad (fun x => decide (kr x p)) (l := s) (i := i) (by omega) (decide_eq_true h)];simp only [List.map_append,List.append_assoc,List.map_cons,List.map_nil];rfl)))|(simp only [*,List.map_append,List.length_append,List.length_cons,List.length_nil,List.map_cons,List.map_nil];done)|(simp_all;done)|(simp_all;omega)))|refine qq rfl ?_)
  refine Yr s p hs ((s.filter fun x => decide (kr x p)) ++ [p]) ?_ 0 (by omega) _ 0 _ rfl ?_
  · rw [List.length_append]
    have := List.length_filter_le (fun x => decide (kr x p)) s
    simp only [List.length_cons, List.length_nil]; omega
  · rw [hL, List.take_of_length_le (by omega)]
    simp only [List.take_zero, List.filter_nil, List.append_nil, List.map_append, List.map_cons, List.map_nil]
theorem Yt (s : List TPkg) (p : TPkg) (hs : s.length ≤ 2000000) : Ex (fun m => qd prg m 92 [.sl 4 (s.map zh), zh p] []) (.osl 0) [.arr false 4 ((y9 s p).map zh)] := by
  refine zz.1 ?_
  (refine U92 (nl := 0) rfl ?_; unfold B92)
  repeat' (first|((with_reducible refine eD ?_);first|refine qe rfl ?_|refine qb rfl ?_)|((with_reducible refine eH ?_);first|refine zA rfl ?_)|(with_reducible first|refine qeJ ?_|refine qiB ?_)|( exact Ys s p hs 0 (by omega) _ 0 _ rfl (by simp))|refine qq rfl ?_)
def QPkgs (b : List Int) (p : Int) : SV → List SO → Prop := fun x os => ∃ (s : List TPkg) (q : Int), x = .osl 1 ∧ os = [rd b q, .arr false 4 (s.map zh)] ∧ s.length ≤ 8 ∧ kh s ∧ p ≤ q ∧ q ≤ p + 300 ∧ wN s
theorem XX {b : List Int} (hb : RdOK b) {p0 : Int} (hp0 : 0 ≤ p0 ∧ p0 < 600000000) : ∀ i : Nat, i ≤ 8 → ∀ (p k : Int) (s : List TPkg) (L : List SV) (c : Nat), k ≤ 8 - i → L = s.map zh → s.length ≤ i → kh s → p0 ≤ p → p ≤ p0 + 1 + 35 * i → wN s →
    Ev (fun n => qbk (qd prg n) (n + 1) 1 (n + 1 - c) [.ptr 0 0, .osl 1, iI k] [rd b p, .arr false 4 L]) (QPkgs b p0) := by
  refine zC ?_
  intro i hi ih p k s L c hk hL hs hsm h1 h2 htm
  subst hL
  (refine UG72_3 _ ?_; unfold qd4)
  repeat' (first|((with_reducible refine eB ?_);first|((with_reducible first|refine zf ?_ ?_|refine ka ?_ ?_)<;>intro h<;>try (exfalso;omega))|((with_reducible first|refine zi ?_ ?_|refine kG ?_ ?_);· omega)|refine qe rfl ?_|refine qb rfl ?_)|((with_reducible refine eC ?_);first|((refine z5 (kV hb (by omega) _ (by omega)) rfl rfl ?_ (fun _ => rfl) ?_);(·first|exact .inl rfl|exact .inr (fun _ => rfl));(first|(have q0 := z3;clear q0;intro z4 hz4)|(have q0 := z2;clear q0;intro z3 hz3)|(have q0 := z;clear q0;intro z2 hz2)|(intro z hz)))|((refine zk (qac hb (by omega) _ _) rfl rfl ?_);((rintro _ _ ⟨t,q,rfl,rfl,hf,hd,hq1,hq2,hnm,hdi⟩)<;>(first|(refine zF ?_ rfl ?_;(focus first|exact .inl rfl|exact .inr rfl|(refine .inr ?_;simp [qo,qm,qh,qg,SO.hasSl,List.all_map,qi,SV.cells,Function.comp_def];done)))|(refine zl ?_ rfl ?_;(focus first|rfl|(simp [qo,qm,qh,qg,SO.hasSl,List.all_map,qi,SV.cells,Function.comp_def];done))))))|((refine z5 (qeV _ (by omega) _ _) rfl rfl ?_ (fun _ => rfl) ?_);(·first|exact .inl rfl|exact .inr (fun _ => rfl));(first|(have q0 := z3;clear q0;intro z4 hz4)|(have q0 := z2;clear q0;intro z3 hz3)|(have q0 := z;clear q0;intro z2 hz2)|(intro z hz)))|((refine wT (Yt s t (by omega)) rfl rfl ?_ rfl ?_);(·first|rfl|(simp [qo,qm,qh,qg,SO.hasSl,List.all_map,qi,SV.cells,Function.comp_def];done))))|((with_reducible refine eK ?_);first|(with_reducible first|refine qT ?_|refine qU ?_)|((with_reducible refine qr ?_ ?_)<;>intro h))|((with_reducible refine eO ?_);first|refine qe rfl ?_|(refine qB rfl ?_ ?_<;>intro h<;>try (exfalso;simp_all;done))|refine qb rfl ?_)|((with_reducible refine eD ?_);first|refine qe rfl ?_|refine qb rfl ?_)|((with_reducible refine eH ?_);first|refine zA rfl ?_)|((with_reducible refine ih ?_ _ _ (y9 s t) _ _ ?_ ?_ ?_ ?_ ?_ ?_ ?_)<;>(first|omega|assumption|((first|(refine XV hsm ?_;constructor<;>omega)|(refine qbP htm ⟨?_,hdi⟩;omega)|((have := qeU s t);omega)))|(simp only [*,List.map_append,List.length_append,List.length_cons,List.length_nil,List.map_cons,List.map_nil];done)|(simp_all;done)|(simp_all;omega)))|((with_reducible refine ih ?_ _ _ s _ _ ?_ ?_ ?_ hsm ?_ ?_ htm)<;>(first|omega|assumption|(simp only [*,List.map_append,List.length_append,List.length_cons,List.length_nil,List.map_cons,List.map_nil];done)|(simp_all;done)|(simp_all;omega)))|((with_reducible refine UJ72_4 ?_);(unfold qd5))|(with_reducible first|refine qeB ?_|refine qiv ?_)|refine qq rfl ?_)
  exact ⟨s, _, rfl, rfl, by omega, hsm, by omega, by omega, htm⟩
theorem Zt {b : List Int} (hb : RdOK b) {p : Int} (hp : 0 ≤ p ∧ p < 600000000) : Ev (fun m => qd prg m 72 [.ptr 0 0] [rd b p]) (QPkgs b p) := by
  (refine U72 (nl := 1) rfl ?_; unfold B72)
  repeat' (first|((with_reducible refine eC ?_);first|((refine z5 (kV hb (by omega) _ (by omega)) rfl rfl ?_ (fun _ => rfl) ?_);(·first|exact .inl rfl|exact .inr (fun _ => rfl));(first|(have q0 := z3;clear q0;intro z4 hz4)|(have q0 := z2;clear q0;intro z3 hz3)|(have q0 := z;clear q0;intro z2 hz2)|(intro z hz))))|((with_reducible refine eD ?_);first|refine qe rfl ?_|refine qb rfl ?_)|((with_reducible refine eH ?_);first|refine zA rfl ?_)|(with_reducible first|refine qeB ?_|refine qiv ?_)|((with_reducible refine XX hb hp 0 ?_ _ _ [] _ _ ?_ ?_ ?_ ko ?_ ?_ Yo)<;>(first|omega|assumption|(simp only [*,List.map_append,List.length_append,List.length_cons,List.length_nil,List.map_cons,List.map_nil];done)|(simp_all;done)|(simp_all;omega)))|refine qq rfl ?_)
end Go.Proofs.Ytfjbclgbpdlkgaa

/- Disks and steps, as data. -/
namespace Go.Proofs.Ytfjbclgbpdlkgaa
open Go
set_option linter.unusedVariables false
structure TDisk where
  db : List TPkg
  files : List Int
  has : Bool
  jour : List TPkg
  deriving Inhabited, DecidableEq
structure TStep where
  kind : Int
  path : Int
  data : Int
  pkgs : List TPkg
  deriving Inhabited, DecidableEq
abbrev qR (d : TDisk) : SV := .ag [.sl 4 (d.db.map zh), .sl 1 (d.files.map iI), bB d.has, .sl 4 (d.jour.map zh)]
abbrev zc (s : TStep) : SV := .ag [iI s.kind, iI s.path, iI s.data, .sl 4 (s.pkgs.map zh)]
def qeW (l : List Int) : Prop := l.length ≤ 9223372036854775807
def okPkg (p : TPkg) : Prop := p.files.length ≤ 9223372036854775807 ∧ p.deps.length ≤ 9223372036854775807
def qeX (l : List TPkg) : Prop := l.length ≤ 9223372036854775807 ∧ ∀ a, a ∈ l → okPkg a
def qiE (r : TRoot) : Prop := r.keys.length ≤ 9223372036854775807
def qeY (x : TIndex) : Prop := x.metas.length ≤ 9223372036854775807
def okTrust (t : TTrust) : Prop := qiE t.root ∧ qeY t.index
def okSigRoot (s : TRoot × List Int) : Prop := qiE s.1 ∧ qeW s.2
def okSigIndex (s : TIndex × List Int) : Prop := qeY s.1 ∧ qeW s.2
def okDisk (d : TDisk) : Prop := qeX d.db ∧ qeW d.files ∧ qeX d.jour
def okStep (s : TStep) : Prop := qeX s.pkgs
abbrev aSigRoot (s : TRoot × List Int) : SV := .ag [iI s.1.num, .sl 1 (s.1.keys.map iI), iI s.1.need, .sl 1 (s.2.map iI)]
abbrev aSigIndex (s : TIndex × List Int) : SV := .ag [iI s.1.num, iI s.1.til, .sl 3 (s.1.metas.map qhg), .sl 1 (s.2.map iI)]
abbrev aRoot (r : TRoot) : SV := .ag [iI r.num, .sl 1 (r.keys.map iI), iI r.need]
abbrev aIndex (x : TIndex) : SV := .ag [iI x.num, iI x.til, .sl 3 (x.metas.map qhg)]
end Go.Proofs.Ytfjbclgbpdlkgaa

/- What the draws of keys and roots give. -/
namespace Go.Proofs.Ytfjbclgbpdlkgaa
open Go
set_option linter.unusedVariables false
set_option maxHeartbeats 4000000
set_option linter.unusedSimpArgs false
theorem jD (l : List Int) (hl : ∀ i, 0 ≤ nth l i ∧ nth l i < 256) : ∃ b, RdOK b ∧ Ex (fun m => qd prg m 41 [.sl 1 (l.map bI)] []) (.ptr 0 0) [rd b 0] := by
  have key : Ev (fun m => qd prg m 41 [.sl 1 (l.map bI)] []) (fun x os => ∃ b, RdOK b ∧ x = .ptr 0 0 ∧ os = [rd b 0]) := by
    (refine U41 (nl := 0) rfl ?_; unfold B41)
    repeat' (first|((with_reducible refine eB ?_);first|((with_reducible refine ka ?_ ?_)<;>intro h<;>try (exfalso;omega))|refine qe rfl ?_|refine qb rfl ?_)|((with_reducible refine eL ?_);first|((with_reducible refine qI ?_ ?_);· rfl)|refine qy rfl rfl ?_|refine qz rfl rfl rfl ?_|refine qJ rfl rfl ?_|refine qH rfl rfl ?_|refine qK rfl ?_|refine qe rfl ?_|refine qb rfl ?_)|((with_reducible refine eS ?_);first|((with_reducible first|refine wl ?_ ?_ ?_|refine wm ?_ ?_ ?_);(·rfl);· omega)|((first|refine kz rfl rfl ?_ ?_|refine kA rfl rfl ?_ ?_);(·first|omega|(simp only [List.length_cons,List.length_nil,List.length_map,List.length_append];omega)))|refine qe rfl ?_|refine qb rfl ?_)|((with_reducible refine eK ?_);first|(with_reducible first|refine qT ?_|refine qU ?_)|((with_reducible refine qr ?_ ?_)<;>intro h))|((with_reducible refine eD ?_);first|refine qe rfl ?_|refine qb rfl ?_)|((with_reducible refine UJ41_3 ?_);(unfold qdM))|refine qq rfl ?_)
    · refine ⟨_, ⟨fun i => ?_, ?_⟩, rfl, rfl⟩
      · by_cases hi : i < (l.take (2000 : Int).toNat).length
        · have : nth (l.take (2000 : Int).toNat) i = nth l i := by
            unfold nth
            simp only [List.length_take] at hi
            simp only [List.getD_eq_getElem?_getD, List.getElem?_take]
            rw [if_pos (by omega)]
          rw [this]; exact hl i
        · have : nth (l.take (2000 : Int).toNat) i = 0 := by
            unfold nth
            rw [List.getD_eq_getElem?_getD, List.getElem?_eq_none (by omega)]; rfl
          rw [this]; omega
      · simp only [List.length_take]; omega
    · exact ⟨l, ⟨hl, by omega⟩, rfl, rfl⟩
  obtain ⟨x, os, ⟨b, hb, rfl, rfl⟩, he⟩ := key
  exact ⟨b, hb, he⟩
end Go.Proofs.Ytfjbclgbpdlkgaa

/- The evaluator S: more steps: storing into an element of an array of typed elements; nothing else. -/
namespace Go.Proofs.Ytfjbclgbpdlkgaa
open Go
set_option linter.unusedVariables false
set_option linter.unusedSimpArgs false
theorem qeZ {y : SV} {os os1 : List SO} {ys : List SV} (hp : z8 y.cells os = some (ys, os1)) : ∃ z os0, qhR os y = some (z, os0) ∧ z8 z.cells os0 = some (ys, os1) ∧ z.cells.length = y.cells.length := by
  cases y with
  | vw j lo hi =>
    simp only [SV.cells, z8] at hp
    split at hp
    · rename_i y0 os2 h0
      cases hp
      refine ⟨y0, os1, h0, ?_, ?_⟩ <;>
      · unfold km at h0
        simp only at h0
        split at h0
        · split at h0
          · cases h0; rfl
          · cases h0
        · split at h0
          · cases h0; rfl
          · cases h0
        · cases h0
    · cases hp
  | _ => exact ⟨_, os, rfl, hp, rfl⟩
theorem wr {α : Type} [Inhabited α] {f : α → SV} {l : List α} {a : α} {T : Tab} {os os1 os2 : List SO} {t j sz es i off m : Nat} {b : Bool} {y : SV} {ys : List SV} {F : Nat → SV → List SO → Out} {Q}
    (hti : (T.ti t).map (·.size) = some sz) (hsz : Nat.blt 0 sz = true) (hy : Nat.beq y.cells.length sz = true) (hp : z8 y.cells os = some (ys, os1)) (hj1 : os1[j]? = some (.arr b es (l.map f)))
    (hd : (QV (f (nth l i))).map List.length = some m) (hm : Nat.ble (off + sz) m = true) (hys : jP (f (nth l i)) off ys = f a) (hi : i < l.length)
    (hn : nf (some (.undef, os1.set j (.arr b es ((l.set i a).map f)))) = some (.undef, os2)) (h2 : Ev (fun n => F n .undef os2) Q) :
    Ev (fun n => bd (qp T os t (.ap j i off) (some y)) (F n)) Q := by
  obtain ⟨q, hq, hqs⟩ := Option.map_eq_some_iff.1 hti
  obtain ⟨yc, hyc, hyl⟩ := Option.map_eq_some_iff.1 hd
  have hsz' : 0 < sz := by simpa using hsz
  have hy' : y.cells.length = sz := Nat.eq_of_beq_eq_true hy
  have hm' : off + sz ≤ m := by simpa using hm
  refine zH (x := .undef) (os := os1.set j (.arr b es ((l.set i a).map f))) ?_ ?_
  · have hg : (l.map f)[i]? = some (f (nth l i)) := by
      rw [List.getElem?_map, w3 hi]; rfl
    have h1 : (l.map f).set i (f a) = (l.set i a).map f := by rw [List.map_set]
    obtain ⟨z, os0, hz1, hz2, hz3⟩ := qeZ hp
    simp only [qp, evN, hz1, QW, hq, hqs, hz3.trans hy', if_true, hz2, hj1, hg, hyc]
    rw [if_pos ⟨by rw [hyl]; exact hm', hsz'⟩, hys, h1]
  · rw [jY] at hn
    obtain ⟨-, rfl⟩ := Prod.mk.inj (Option.some.inj hn)
    exact h2
theorem qk9 {α : Type} [Inhabited α] {f : α → SV} {l : List α} {T : Tab} {os : List SO} {t j es i off : Nat} {b : Bool} (hj : os[j]? = some (.arr b es (l.map f))) (hi : i < l.length) :
    qf T os t (.ap j i off) = qf T os t (.el (f (nth l i)) off) := by
  have hg : (l.map f)[i]? = some (f (nth l i)) := by
    rw [List.getElem?_map, w3 hi]; rfl
  simp only [qf, kP, hj, hg]
theorem qF {α : Type} [Inhabited α] {f : α → SV} {l : List α} {T : Tab} {os os' : List SO} {t j es i off : Nat} {b : Bool} {x : SV} {F : Nat → SV → List SO → Out} {Q} (hj : os[j]? = some (.arr b es (l.map f))) (hi : i < l.length)
    (h : nfB (qc (qf T os t (.el (f (nth l i)) off)) os) = some (x, os')) (h2 : Ev (fun n => F n x os') Q) : Ev (fun n => bd (qc (qf T os t (.ap j i off)) os) (F n)) Q := by
  rw [qh4] at h
  refine zH (x := x) (os := os') ?_ h2
  rw [qk9 hj hi, h]
theorem qt {α : Type} [Inhabited α] {f : α → SV} {l : List α} {T : Tab} {os os' : List SO} {t j es i off : Nat} {b c : Bool} {F : Nat → SV → List SO → Out} {Q} (hj : os[j]? = some (.arr b es (l.map f))) (hi : i < l.length)
    (h : nf (qc (qf T os t (.el (f (nth l i)) off)) os) = some (.v (.bool c), os')) (h1 : c = true → Ev (fun n => F n (.v (.bool true)) os') Q) (h2 : c = false → Ev (fun n => F n (.v (.bool false)) os') Q) : Ev (fun n => bd (qc (qf T os t (.ap j i off)) os) (F n)) Q := by
  rw [jY] at h
  cases c
  · refine zH (x := .v (.bool false)) (os := os') ?_ (h2 rfl)
    rw [qk9 hj hi, h]
  · refine zH (x := .v (.bool true)) (os := os') ?_ (h1 rfl)
    rw [qk9 hj hi, h]
theorem qG {α : Type} {T : Tab} {t : Nat} {sz j : Nat} {f : α → SV} {l : List α} {os : List SO} {F : Nat → SV → List SO → Out} {Q} (hj : os[j]? = some (.frz sz (l.map f))) (hu : (wc T t).isSome = true) (h2 : Ev (fun n => F n (iI (l.length : Int)) os) Q) :
    Ev (fun n => bd (ze T t os (.osl j)) (F n)) Q := by
  obtain ⟨s, hs⟩ := Option.isSome_iff_exists.1 hu
  obtain ⟨e, q, hu, -⟩ := kg hs
  refine zH (x := iI (l.length : Int)) (os := os) ?_ h2
  simp [ze, qiK, hu, xE, hj]
theorem q5 {α : Type} [Inhabited α] {T : Tab} {t : Nat} {enc : α → SV} {l : List α} {sz i : Nat} {os : List SO} {F : Nat → SV → List SO → Out} {Q}
    (hu : wc T t = some sz) (h0 : i < l.length) (h2 : Ev (fun n => F n (.el (enc (nth l i)) 0) os) Q) :
    Ev (fun n => bd (qc (qj T os t (.sl sz (l.map enc)) (.v (.int .i64 (i : Int)))) os) (F n)) Q :=
  q9 hu ⟨by omega, by omega⟩ h2
theorem qN {T : Tab} {os : List SO} {t j sz : Nat} {b : Bool} {l : List SV} {i : Nat} {F : Nat → SV → List SO → Out} {Q} (hj : os[j]? = some (.arr b sz l)) (hu : wc T t = some sz) (h0 : i < l.length) (h2 : Ev (fun n => F n (.ap j i 0) os) Q) :
    Ev (fun n => bd (qc (qj T os t (.osl j) (.v (.int .i64 (i : Int)))) os) (F n)) Q :=
  qS hj hu ⟨by omega, by omega⟩ h2
theorem qW {α : Type} [Inhabited α] {T : Tab} {t : Nat} {enc : α → SV} {l : List α} {sz j : Nat} {i : Int} {os : List SO} {F : Nat → SV → List SO → Out} {Q}
    (hj : os[j]? = some (.frz sz (l.map enc))) (hu : wc T t = some sz) (h0 : 0 ≤ i ∧ i < (l.length : Int)) (h2 : Ev (fun n => F n (.el (enc (nth l i.toNat)) 0) os) Q) :
    Ev (fun n => bd (qc (qj T os t (.osl j) (.v (.int .i64 i))) os) (F n)) Q := by
  obtain ⟨e, q, hu, hq, hs⟩ := kg hu
  refine zH (x := .el (enc (nth l i.toNat)) 0) (os := os) ?_ h2
  have hg : (l.map enc)[i.toNat]? = some (enc (nth l i.toNat)) := by
    rw [List.getElem?_map, w3 (by omega)]; rfl
  simp [qj, hu, hq, hs, hj, h0.1, elS, hg, qc]
theorem qO {α : Type} [Inhabited α] {T : Tab} {t : Nat} {enc : α → SV} {l : List α} {sz j i : Nat} {os : List SO} {F : Nat → SV → List SO → Out} {Q}
    (hj : os[j]? = some (.frz sz (l.map enc))) (hu : wc T t = some sz) (h0 : i < l.length) (h2 : Ev (fun n => F n (.el (enc (nth l i)) 0) os) Q) :
    Ev (fun n => bd (qc (qj T os t (.osl j) (.v (.int .i64 (i : Int)))) os) (F n)) Q :=
  qW hj hu ⟨by omega, by omega⟩ h2
theorem yJ {c : Nat → Cx} {os : List SO} {f : Nat} {caps args : List SV} {F : Nat → SV → List SO → Out} {Q} (h : Ev (fun n => bd (qn (c n) os f (args ++ caps)) (F n)) Q) : Ev (fun n => bd (wJ (c n) os (.fn f caps) args) (F n)) Q := h
theorem Ev.of {A : Nat → Out} {x os} {Q : SV → List SO → Prop} (h : Ex A x os) (hq : Q x os) : Ev A Q := ⟨x, os, hq, h⟩
end Go.Proofs.Ytfjbclgbpdlkgaa

/- Packages: what is ok; their texts and sums; indexes of them (the reference's functions). -/
namespace Go.Proofs.Ytfjbclgbpdlkgaa
open Go
set_option linter.unusedVariables false
set_option linter.unusedSimpArgs false
set_option maxHeartbeats 4000000
def yi (l : List TFile) (i : Nat) : Prop := (0 ≤ (nth l i).path ∧ (nth l i).path ≤ 5) ∧ (0 ≤ (nth l i).data ∧ (nth l i).data ≤ 9) ∧ (0 < i → (nth l (i - 1)).path < (nth l i).path)
instance (l : List TFile) (i : Nat) : Decidable (yi l i) := by unfold yi; exact inferInstance
def Wn (name : Int) (l : List TDep) (i : Nat) : Prop := (1 ≤ (nth l i).name ∧ (nth l i).name ≤ 4) ∧ (nth l i).name ≠ name ∧ (1 ≤ (nth l i).least ∧ (nth l i).least ≤ 5) ∧ (0 < i → (nth l (i - 1)).name < (nth l i).name)
instance (name : Int) (l : List TDep) (i : Nat) : Decidable (Wn name l i) := by unfold Wn; exact inferInstance
def yT (l : List TFile) : Bool := decide (∀ i, i < l.length → yi l i)
def Qu (name : Int) (l : List TDep) : Bool := decide (∀ i, i < l.length → Wn name l i)
def wv (l : List TFile) : Bool := decide (l.length ≤ 2) && yT l
def y6 (name : Int) (l : List TDep) : Bool := decide (l.length ≤ 2) && Qu name l
def w4 (p : TPkg) : Bool := decide (1 ≤ p.name ∧ p.name ≤ 4) && decide (1 ≤ p.ver ∧ p.ver ≤ 5) && wv p.files && y6 p.name p.deps
theorem qe0 {p : TPkg} : w4 p = true ↔ (1 ≤ p.name ∧ p.name ≤ 4) ∧ (1 ≤ p.ver ∧ p.ver ≤ 5) ∧ wv p.files = true ∧ y6 p.name p.deps = true := by
  simp [w4, and_assoc]
theorem XY (l : List TFile) (hl : l.length ≤ 2000000) : ∀ i, i ≤ l.length → (∀ j, j < i → yi l j) → ∀ (k : Int) (c : Nat), k = i →
    Ev (fun n => Ky (qd prg n) (n + 1) 0 (n + 1 - c) (.sl 2 (l.map wq)) (iI k) []) (Is (bB (wv l)) []) := by
  refine zC ?_
  intro i hi ih hp k c hk
  subst hk
  (refine qk3 ?_; unfold XL)
  repeat' (first|((with_reducible refine eG ?_);first|(with_reducible first|refine qX ?_|refine qY ?_|refine qZ ?_|refine q4 ?_|refine zm ?_)|refine qe rfl ?_|refine qb rfl ?_|((with_reducible refine zn ?_ ?_)<;>intro h))|((with_reducible refine eB ?_);first|((with_reducible first|refine zf ?_ ?_|refine xk ?_ ?_|refine ka ?_ ?_|refine wk ?_ ?_)<;>intro h<;>try (exfalso;omega))|((with_reducible first|refine zi ?_ ?_|refine kG ?_ ?_);· omega)|refine qe rfl ?_|refine qb rfl ?_)|((with_reducible refine eL ?_);first|((with_reducible refine qI ?_ ?_);· rfl)|refine qy rfl rfl ?_|refine qz rfl rfl rfl ?_|refine qJ rfl rfl ?_|refine qH rfl rfl ?_|refine qK rfl ?_|refine qe rfl ?_|refine qb rfl ?_)|((with_reducible refine eI ?_);first|((with_reducible refine q9 ?_ ?_ ?_);(·rfl);· omega)|(refine qS rfl rfl ?_ ?_;(·first|omega|(simp only [List.length_cons,List.length_nil,List.length_map,List.length_append];omega)))|refine qe rfl ?_|refine qb rfl ?_)|((with_reducible refine eC ?_);first|((refine zw (KB ..) rfl rfl ?_ rfl rfl ?_ ?_);(focus first|exact .inl rfl|exact .inr rfl|(refine .inr ?_;simp [qo,qm,qh,qg,SO.hasSl,List.all_map,qi,SV.cells,Function.comp_def];done));(all_goals (intro h));(all_goals (try (exfalso;first|omega|exact h rfl|exact h ⟨rfl,rfl,rfl⟩)))))|((with_reducible refine eK ?_);first|(with_reducible first|refine qT ?_|refine qU ?_)|((with_reducible refine qr ?_ ?_)<;>intro h))|((with_reducible refine eO ?_);first|refine qe rfl ?_|(refine qB rfl ?_ ?_<;>intro h<;>try (exfalso;simp_all;done))|refine qb rfl ?_)|((with_reducible refine eD ?_);first|refine qe rfl ?_|refine qb rfl ?_|((with_reducible refine qC ?_ ?_)<;>intro h))|((with_reducible refine ih ?_ (zR hp ?_) _ _ ?_)<;>(first|omega|assumption|((unfold yi;(try simp only [Int.toNat_natCast,kI,kJ] at *);omega))|(simp only [*,List.map_append,List.length_append,List.length_cons,List.length_nil,List.map_cons,List.map_nil];done)|(simp_all;done)|(simp_all;omega)))|refine qq rfl ?_)
  all_goals first
    | (have hm : yT l = false := kD (i := i) (by omega) (by unfold yi; (try simp only [Int.toNat_natCast, kI, kJ] at *); omega)
       exact ⟨congrArg bB (by simp [wv, hm]), rfl⟩)
    | (have hm : yT l = true := wn hp (by omega)
       exact ⟨congrArg bB (by simp [wv, hm] <;> omega), rfl⟩)
    | trace_state
theorem qe1 (l : List TFile) (hl : l.length ≤ 2000000) : Ex (fun m => qd prg m 117 [.sl 2 (l.map wq)] []) (bB (wv l)) [] := by
  refine zz.1 ?_
  (refine U117 (nl := 0) rfl ?_; unfold B117)
  exact XY l hl 0 (by omega) (fun j hj => by omega) 0 0 rfl
theorem qbQ (name : Int) (l : List TDep) (hl : l.length ≤ 2000000) : ∀ i, i ≤ l.length → (∀ j, j < i → Wn name l j) → ∀ (k : Int) (c : Nat), k = i →
    Ev (fun n => KA (qd prg n) (n + 1) 0 (n + 1 - c) [iI name, .sl 2 (l.map je), iI k] []) (Is (bB (y6 name l)) []) := by
  refine zC ?_
  intro i hi ih hp k c hk
  subst hk
  (refine qk4 _ ?_; unfold XM)
  repeat' (first|((with_reducible refine eG ?_);first|(with_reducible first|refine qX ?_|refine qY ?_|refine qZ ?_|refine q4 ?_|refine zm ?_)|refine qe rfl ?_|refine qb rfl ?_|((with_reducible refine zn ?_ ?_)<;>intro h))|((with_reducible refine eB ?_);first|((with_reducible first|refine zf ?_ ?_|refine xk ?_ ?_|refine ka ?_ ?_|refine wk ?_ ?_|refine zr ?_ ?_)<;>intro h<;>try (exfalso;omega))|((with_reducible first|refine zi ?_ ?_|refine kG ?_ ?_);· omega)|refine qe rfl ?_|refine qb rfl ?_)|((with_reducible refine eL ?_);first|((with_reducible refine qI ?_ ?_);· rfl)|refine qy rfl rfl ?_|refine qz rfl rfl rfl ?_|refine qJ rfl rfl ?_|refine qH rfl rfl ?_|refine qK rfl ?_|refine qe rfl ?_|refine qb rfl ?_)|((with_reducible refine eI ?_);first|((with_reducible refine q9 ?_ ?_ ?_);(·rfl);· omega)|(refine qS rfl rfl ?_ ?_;(·first|omega|(simp only [List.length_cons,List.length_nil,List.length_map,List.length_append];omega)))|refine qe rfl ?_|refine qb rfl ?_)|((with_reducible refine eC ?_);first|((refine zw (KB ..) rfl rfl ?_ rfl rfl ?_ ?_);(focus first|exact .inl rfl|exact .inr rfl|(refine .inr ?_;simp [qo,qm,qh,qg,SO.hasSl,List.all_map,qi,SV.cells,Function.comp_def];done));(all_goals (intro h));(all_goals (try (exfalso;first|omega|exact h rfl|exact h ⟨rfl,rfl,rfl⟩)))))|((with_reducible refine eK ?_);first|(with_reducible first|refine qT ?_|refine qU ?_)|((with_reducible refine qr ?_ ?_)<;>intro h))|((with_reducible refine eO ?_);first|refine qe rfl ?_|(refine qB rfl ?_ ?_<;>intro h<;>try (exfalso;simp_all;done))|refine qb rfl ?_)|((with_reducible refine eD ?_);first|refine qe rfl ?_|refine qb rfl ?_|((with_reducible refine qC ?_ ?_)<;>intro h))|((with_reducible refine eH ?_);first|refine zA rfl ?_)|(with_reducible first|refine XS ?_|refine qeQ ?_)|((with_reducible refine ih ?_ (zR hp ?_) _ _ ?_)<;>(first|omega|assumption|((unfold Wn;(try simp only [Int.toNat_natCast,kI,kJ] at *);omega))|(simp only [*,List.map_append,List.length_append,List.length_cons,List.length_nil,List.map_cons,List.map_nil];done)|(simp_all;done)|(simp_all;omega)))|refine qq rfl ?_)
  all_goals first
    | (have hm : Qu name l = false := kD (i := i) (by omega) (by unfold Wn; (try simp only [Int.toNat_natCast, kI, kJ] at *); omega)
       exact ⟨congrArg bB (by simp [y6, hm]), rfl⟩)
    | (have hm : Qu name l = true := wn hp (by omega)
       exact ⟨congrArg bB (by simp [y6, hm] <;> omega), rfl⟩)
    | trace_state
theorem qhi (name : Int) (l : List TDep) (hl : l.length ≤ 2000000) : Ex (fun m => qd prg m 118 [iI name, .sl 2 (l.map je)] []) (bB (y6 name l)) [] := by
  refine zz.1 ?_
  (refine U118 (nl := 0) rfl ?_; unfold B118)
  repeat' (first|((with_reducible refine eD ?_);first|refine qe rfl ?_|refine qb rfl ?_)|((with_reducible refine eH ?_);first|refine zA rfl ?_)|(with_reducible first|refine XS ?_|refine qeQ ?_)|( exact qbQ name l hl 0 (by omega) (fun j hj => by omega) 0 1 rfl)|refine qq rfl ?_)
theorem qhj (name ver : Int) (F : List TFile) (D : List TDep) (hF : F.length ≤ 2000000) (hD : D.length ≤ 2000000) : Ex (fun m => qd prg m 115 [.ag [iI name, iI ver, .sl 2 (F.map wq), .sl 2 (D.map je)]] []) (bB (w4 ⟨name, ver, F, D⟩)) [] := by
  refine zz.1 ?_
  (refine U115 (nl := 0) rfl ?_; unfold B115)
  repeat' (first|((with_reducible refine eG ?_);first|(with_reducible first|refine qX ?_|refine qY ?_|refine qZ ?_|refine q4 ?_|refine zm ?_)|refine qe rfl ?_|refine qb rfl ?_|((with_reducible refine zn ?_ ?_)<;>intro h))|((with_reducible refine eC ?_);first|((refine zw (KB ..) rfl rfl ?_ rfl rfl ?_ ?_);(focus first|exact .inl rfl|exact .inr rfl|(refine .inr ?_;simp [qo,qm,qh,qg,SO.hasSl,List.all_map,qi,SV.cells,Function.comp_def];done));(all_goals (intro h));(all_goals (try (exfalso;first|omega|exact h rfl|exact h ⟨rfl,rfl,rfl⟩))))|((refine zT (qe1 _ hF) rfl rfl ?_ rfl rfl ?_ ?_);(focus first|exact .inl rfl|exact .inr rfl|(refine .inr ?_;simp [qo,qm,qh,qg,SO.hasSl,List.all_map,qi,SV.cells,Function.comp_def];done));(all_goals (intro h));(all_goals (try (exfalso;simp_all;done))))|((refine zT (qhi _ _ hD) rfl rfl ?_ rfl rfl ?_ ?_);(focus first|exact .inl rfl|exact .inr rfl|(refine .inr ?_;simp [qo,qm,qh,qg,SO.hasSl,List.all_map,qi,SV.cells,Function.comp_def];done));(all_goals (intro h));(all_goals (try (exfalso;simp_all;done)))))|((with_reducible refine eO ?_);first|refine qe rfl ?_|(refine qB rfl ?_ ?_<;>intro h<;>try (exfalso;simp_all;done))|refine qb rfl ?_)|((with_reducible refine eD ?_);first|refine qe rfl ?_|refine qb rfl ?_|((with_reducible refine qC ?_ ?_)<;>intro h))|refine qq rfl ?_)
  all_goals (refine ⟨congrArg (fun b => SV.v (Value.bool b)) ?_, rfl⟩; first | (simp_all [w4]; done) | (simp_all [w4]; omega) | (simp [w4] at *; omega) | (simp [w4]; omega) | grind [w4] | trace_state)
def bt (n : Int) : UInt8 := UInt8.ofNat n.toNat
def fileTx (f : TFile) : List UInt8 := [32, bt (48 + f.path), 58, bt (48 + f.data)]
def depTx (d : TDep) : List UInt8 := [32, bt (96 + d.name), bt (48 + d.least)]
def pkgTx (p : TPkg) : List UInt8 := [bt (96 + p.name), bt (48 + p.ver)] ++ p.files.flatMap fileTx ++ p.deps.flatMap depTx
def qla (p : TPkg) : List UInt8 := if w4 p = true then pkgTx p else []
def qlb (s : Int) (b : UInt8) : Int := (31 * s + (b.toNat : Int) + 1) % 9973
def sumOf (l : List UInt8) : Int := l.foldl qlb 7
def qbR (s : List TPkg) (i : Nat) : Prop := w4 (nth s i) = true ∧ (0 < i → kr (nth s (i - 1)) (nth s i))
instance (s : List TPkg) (i : Nat) : Decidable (qbR s i) := by unfold qbR; exact inferInstance
def kF (s : List TPkg) : Bool := decide (∀ i, i < s.length → qbR s i)
def PL (s : List TPkg) : Prop := ∀ i, (nth s i).files.length ≤ 2000000 ∧ (nth s i).deps.length ≤ 2000000
theorem zK {s : List TPkg} (h : kh s) : PL s := by
  intro i
  by_cases hi : i < s.length
  · have hm : nth s i ∈ s := List.mem_of_getElem? (w3 hi)
    have := h _ hm
    unfold ZT at this
    omega
  · have : nth s i = default := by
      unfold nth
      rw [List.getD_eq_getElem?_getD, List.getElem?_eq_none (by omega)]; rfl
    rw [this]
    exact ⟨by show ([] : List TFile).length ≤ _; simp, by show ([] : List TDep).length ≤ _; simp⟩
theorem qbS (s : List TPkg) (hs : s.length ≤ 2000000) (hp0 : PL s) : ∀ i, i ≤ s.length → (∀ j, j < i → qbR s j) → ∀ (k : Int) (c : Nat), k = i →
    Ev (fun n => Ks (qd prg n) (n + 1) 0 (n + 1 - c) (.sl 4 (s.map zh)) (iI k) []) (Is (bB (kF s)) []) := by
  refine zC ?_
  intro i hi ih hp k c hk
  subst hk
  (refine qk0 ?_; unfold XJ)
  repeat' (first|((with_reducible refine eG ?_);first|(with_reducible first|refine qX ?_|refine qY ?_|refine qZ ?_|refine q4 ?_|refine zm ?_)|refine qe rfl ?_|refine qb rfl ?_|((with_reducible refine zn ?_ ?_)<;>intro h))|((with_reducible refine eB ?_);first|((with_reducible first|refine zf ?_ ?_|refine ka ?_ ?_)<;>intro h<;>try (exfalso;omega))|((with_reducible first|refine zi ?_ ?_|refine kG ?_ ?_);· omega)|refine qe rfl ?_|refine qb rfl ?_)|((with_reducible refine eL ?_);first|((with_reducible refine qI ?_ ?_);· rfl)|refine qy rfl rfl ?_|refine qz rfl rfl rfl ?_|refine qJ rfl rfl ?_|refine qH rfl rfl ?_|refine qK rfl ?_|refine qe rfl ?_|refine qb rfl ?_)|((with_reducible refine eI ?_);first|((with_reducible refine q9 ?_ ?_ ?_);(·rfl);· omega)|(refine qS rfl rfl ?_ ?_;(·first|omega|(simp only [List.length_cons,List.length_nil,List.length_map,List.length_append];omega)))|refine qe rfl ?_|refine qb rfl ?_)|((with_reducible refine eC ?_);first|((refine zT (qhj _ _ _ _ (hp0 _).1 (hp0 _).2) rfl rfl ?_ rfl rfl ?_ ?_);(focus first|exact .inl rfl|exact .inr rfl|(refine .inr ?_;simp [qo,qm,qh,qg,SO.hasSl,List.all_map,qi,SV.cells,Function.comp_def];done));(all_goals (intro h));(all_goals (try (exfalso;simp_all;done))))|((refine zw (qhh ..) rfl rfl ?_ rfl rfl ?_ ?_);(focus first|exact .inl rfl|exact .inr rfl|(refine .inr ?_;simp [qo,qm,qh,qg,SO.hasSl,List.all_map,qi,SV.cells,Function.comp_def];done));(all_goals (intro h));(all_goals (try (exfalso;first|omega|exact h rfl|exact h ⟨rfl,rfl,rfl⟩)))))|((with_reducible refine eK ?_);first|(with_reducible first|refine qT ?_|refine qU ?_)|((with_reducible refine qr ?_ ?_)<;>intro h))|((with_reducible refine eO ?_);first|refine qe rfl ?_|(refine qB rfl ?_ ?_<;>intro h<;>try (exfalso;simp_all;done))|refine qb rfl ?_)|((with_reducible refine eD ?_);first|refine qe rfl ?_|refine qb rfl ?_|((with_reducible refine qC ?_ ?_)<;>intro h))|((with_reducible refine ih ?_ (zR hp ?_) _ _ ?_)<;>(first|omega|assumption|((refine ⟨by assumption,fun hi0 => ?_⟩;unfold kr;(try simp only [Int.toNat_natCast,kI,kJ] at *);omega))|(simp only [*,List.map_append,List.length_append,List.length_cons,List.length_nil,List.map_cons,List.map_nil];done)|(simp_all;done)|(simp_all;omega)))|refine qq rfl ?_)
  all_goals first
    | exact ⟨congrArg bB (Eq.symm (wn hp (by omega))), rfl⟩
    | (refine ⟨congrArg bB (Eq.symm (kD (i := i) (by omega) ?_)), rfl⟩; intro hh; have h1 := hh.2 (by omega); unfold kr at h1; (try simp only [Int.toNat_natCast, kI, kJ] at *); omega)
    | (refine ⟨congrArg bB (Eq.symm (kD (i := i) (by omega) ?_)), rfl⟩; intro hh; have h1 := hh.1; simp only [Int.toNat_natCast] at h; simp_all; done)
    | trace_state
theorem qhk (s : List TPkg) (hs : s.length ≤ 2000000) (hp0 : PL s) : Ex (fun m => qd prg m 103 [.sl 4 (s.map zh)] []) (bB (kF s)) [] := by
  refine zz.1 ?_
  (refine U103 (nl := 0) rfl ?_; unfold B103)
  exact qbS s hs hp0 0 (by omega) (fun j hj => by omega) 0 0 rfl
def qiF (p : TPkg) : TMeta := ⟨p.name, p.ver, sumOf (qla p)⟩
def zIndex : TIndex := ⟨0, 0, []⟩
def indexOf (num til : Int) (s : List TPkg) : TIndex × Bool := if kF s = true ∧ qeT num til (s.map qiF) = true then (⟨num, til, s.map qiF⟩, true) else (zIndex, false)
abbrev rIndex (x : TIndex) : SV := .ag [iI x.num, iI x.til, .osl 0]
end Go.Proofs.Ytfjbclgbpdlkgaa
