/- The evaluator S and what it says of functions: Sb, Ta, Shb, Bw, V1, V3. -/
import Derived.Test.YtebaiioejagfoaaGreatDoorSb2
import Derived.Test.YtebaiioejagfoaaGreatDoorProg
import Derived.KernelRfl
import Derived.Test.YtebaiioejagfoaaGreatDoorTe
import Derived.Test.YtebaiioejagfoaaGreatDoorTc
import Derived.Shelf.Strings.Builder1
import Derived.Shelf.Strings.BuilderF
import Derived.Shelf.Strings.BuilderK
import Derived.Shelf.Strconv.Atoi
import Derived.Shelf.LaysM
import Derived.Shelf.Strings.Search1
import Derived.Shelf.Strings.Search2
import Derived.Shelf.Strings.Search3
import Derived.Shelf.Strings.Cut
import Derived.Shelf.Strings.Count
import Derived.Shelf.Strings.Shaped
import Derived.Shelf.Strings.Split
import Derived.Shelf.Strings.SplitShaped
import Derived.Shelf.Strings.RuneCount
import Derived.Shelf.Strings.Explode
import Derived.WalkKit
/- The evaluator S: the functions of this seat, read chunk by chunk (3). -/
namespace Go.Proofs.YtebaiioejagfoaaGreatDoor
open Go
set_option linter.unusedVariables false
set_option maxRecDepth 100000
theorem E100 (n : Nat) (x0 x1 : SV) (os : List SO) : callF prg (n + 1) 100 [x0, x1] os = X100 (callF prg n) (n + 1) os.length x0 x1 os := by kernel_rfl
theorem U100 {Q : SV → List SO → Prop} {x0 x1 : SV} {os : List SO} {nl : Nat} (hnl : os.length = nl) (h : Ev (fun n => B100 (callF prg n) (n + 1) nl x0 x1 os) Q) : Ev (fun n => callF prg n 100 [x0, x1] os) Q := by subst hnl; exact ev_fun (fun n => (E100 n _ _ _).trans (X100_s _ _ _ _ _ _)) h
theorem L101_2_s (K : Nat → List SV → List SO → Out) (N nl : Nat) (m2 : Nat) (x0 x3 : SV) (os : List SO) : L101_2 K N nl (m2 + 1) x0 x3 os = LB101_2 K N nl m2 x0 x3 os := by kernel_rfl
theorem UL101_2 {nl c : Nat} {Q : SV → List SO → Prop} {x0 x3 : SV} {os : List SO} (h : Ev (fun n => LB101_2 (callF prg n) (n + 1) nl (n + 1 - (c + 1)) x0 x3 os) Q) : Ev (fun n => L101_2 (callF prg n) (n + 1) nl (n + 1 - c) x0 x3 os) Q := ev_loop (L := fun n m => L101_2 (callF prg n) (n + 1) nl m x0 x3 os) (fun n m => L101_2_s _ _ _ _ _ _ _) h
theorem X101_s (K : Nat → List SV → List SO → Out) (N nl : Nat) (x0 : SV) (os : List SO) : X101 K N nl x0 os = B101 K N nl x0 os := by kernel_rfl
theorem E101 (n : Nat) (x0 : SV) (os : List SO) : callF prg (n + 1) 101 [x0] os = X101 (callF prg n) (n + 1) os.length x0 os := by kernel_rfl
theorem U101 {Q : SV → List SO → Prop} {x0 : SV} {os : List SO} {nl : Nat} (hnl : os.length = nl) (h : Ev (fun n => B101 (callF prg n) (n + 1) nl x0 os) Q) : Ev (fun n => callF prg n 101 [x0] os) Q := by subst hnl; exact ev_fun (fun n => (E101 n _ _).trans (X101_s _ _ _ _ _)) h
theorem L102_2_s (K : Nat → List SV → List SO → Out) (N nl : Nat) (m2 : Nat) (x0 x1 x5 : SV) (os : List SO) : L102_2 K N nl (m2 + 1) x0 x1 x5 os = gcB nl [x0, x1, x5] os fun xs os => G102_2 K N nl m2 xs os := by kernel_rfl
theorem UL102_2 {nl c : Nat} {Q : SV → List SO → Prop} {x0 x1 x5 : SV} {os : List SO} (h : Ev (fun n => gcB nl [x0, x1, x5] os fun xs os => G102_2 (callF prg n) (n + 1) nl (n + 1 - (c + 1)) xs os) Q) : Ev (fun n => L102_2 (callF prg n) (n + 1) nl (n + 1 - c) x0 x1 x5 os) Q := ev_loop (L := fun n m => L102_2 (callF prg n) (n + 1) nl m x0 x1 x5 os) (fun n m => L102_2_s _ _ _ _ _ _ _ _) h
theorem VL102_2 {nl : Nat} {Q : SV → List SO → Prop} {x0 x1 x5 : SV} {os : List SO} (h : Ev (fun n => gcB nl [x0, x1, x5] os fun xs os => G102_2 (callF prg n) (n + 1) nl (n + 1 - 1) xs os) Q) : Ev (fun n => L102_2 (callF prg n) (n + 1) nl (n + 1) x0 x1 x5 os) Q := UL102_2 (c := 0) h
theorem G102_2_s (K : Nat → List SV → List SO → Out) (N nl : Nat) (m2 : Nat) (x0 x1 x5 : SV) (os : List SO) : G102_2 K N nl m2 [x0, x1, x5] os = GB102_2 K N nl m2 x0 x1 x5 os := by kernel_rfl
theorem UG102_2 {nl : Nat} {Q : SV → List SO → Prop} (m2 : Nat → Nat) {x0 x1 x5 : SV} {os : List SO} (h : Ev (fun n => GB102_2 (callF prg n) (n + 1) nl (m2 n) x0 x1 x5 os) Q) : Ev (fun n => G102_2 (callF prg n) (n + 1) nl (m2 n) [x0, x1, x5] os) Q := ev_eq (fun n => G102_2_s _ _ _ _ _ _ _ _) h
theorem X102_s (K : Nat → List SV → List SO → Out) (N nl : Nat) (x0 x1 : SV) (os : List SO) : X102 K N nl x0 x1 os = B102 K N nl x0 x1 os := by kernel_rfl
theorem E102 (n : Nat) (x0 x1 : SV) (os : List SO) : callF prg (n + 1) 102 [x0, x1] os = X102 (callF prg n) (n + 1) os.length x0 x1 os := by kernel_rfl
theorem U102 {Q : SV → List SO → Prop} {x0 x1 : SV} {os : List SO} {nl : Nat} (hnl : os.length = nl) (h : Ev (fun n => B102 (callF prg n) (n + 1) nl x0 x1 os) Q) : Ev (fun n => callF prg n 102 [x0, x1] os) Q := by subst hnl; exact ev_fun (fun n => (E102 n _ _ _).trans (X102_s _ _ _ _ _ _)) h
theorem L103_3_s (K : Nat → List SV → List SO → Out) (N nl : Nat) (m3 : Nat) (x3 x6 x7 x8 : SV) (os : List SO) : L103_3 K N nl (m3 + 1) x3 x6 x7 x8 os = LB103_3 K N nl m3 x3 x6 x7 x8 os := by kernel_rfl
theorem UL103_3 {nl c : Nat} {Q : SV → List SO → Prop} {x3 x6 x7 x8 : SV} {os : List SO} (h : Ev (fun n => LB103_3 (callF prg n) (n + 1) nl (n + 1 - (c + 1)) x3 x6 x7 x8 os) Q) : Ev (fun n => L103_3 (callF prg n) (n + 1) nl (n + 1 - c) x3 x6 x7 x8 os) Q := ev_loop (L := fun n m => L103_3 (callF prg n) (n + 1) nl m x3 x6 x7 x8 os) (fun n m => L103_3_s _ _ _ _ _ _ _ _ _) h
theorem VL103_3 {nl : Nat} {Q : SV → List SO → Prop} {x3 x6 x7 x8 : SV} {os : List SO} (h : Ev (fun n => LB103_3 (callF prg n) (n + 1) nl (n + 1 - 1) x3 x6 x7 x8 os) Q) : Ev (fun n => L103_3 (callF prg n) (n + 1) nl (n + 1) x3 x6 x7 x8 os) Q := UL103_3 (c := 0) h
theorem X103_s (K : Nat → List SV → List SO → Out) (N nl : Nat) (x0 : SV) (os : List SO) : X103 K N nl x0 os = B103 K N nl x0 os := by kernel_rfl
theorem E103 (n : Nat) (x0 : SV) (os : List SO) : callF prg (n + 1) 103 [x0] os = X103 (callF prg n) (n + 1) os.length x0 os := by kernel_rfl
theorem U103 {Q : SV → List SO → Prop} {x0 : SV} {os : List SO} {nl : Nat} (hnl : os.length = nl) (h : Ev (fun n => B103 (callF prg n) (n + 1) nl x0 os) Q) : Ev (fun n => callF prg n 103 [x0] os) Q := by subst hnl; exact ev_fun (fun n => (E103 n _ _).trans (X103_s _ _ _ _ _)) h
theorem X104_s (K : Nat → List SV → List SO → Out) (N nl : Nat) (x0 x1 : SV) (os : List SO) : X104 K N nl x0 x1 os = B104 K N nl x0 x1 os := by kernel_rfl
theorem E104 (n : Nat) (x0 x1 : SV) (os : List SO) : callF prg (n + 1) 104 [x0, x1] os = X104 (callF prg n) (n + 1) os.length x0 x1 os := by kernel_rfl
theorem U104 {Q : SV → List SO → Prop} {x0 x1 : SV} {os : List SO} {nl : Nat} (hnl : os.length = nl) (h : Ev (fun n => B104 (callF prg n) (n + 1) nl x0 x1 os) Q) : Ev (fun n => callF prg n 104 [x0, x1] os) Q := by subst hnl; exact ev_fun (fun n => (E104 n _ _ _).trans (X104_s _ _ _ _ _ _)) h
theorem J105_7_s (K : Nat → List SV → List SO → Out) (N nl : Nat) (x0 x1 x2 x3 : SV) (os : List SO) : J105_7 K N nl x0 x1 x2 x3 os = JB105_7 K N nl x0 x1 x2 x3 os := by kernel_rfl
theorem L105_11_s (K : Nat → List SV → List SO → Out) (N nl : Nat) (m11 : Nat) (x0 x1 x2 x3 x9 x10 : SV) (os : List SO) : L105_11 K N nl (m11 + 1) x0 x1 x2 x3 x9 x10 os = LB105_11 K N nl m11 x0 x1 x2 x3 x9 x10 os := by kernel_rfl
theorem J105_17_s (K : Nat → List SV → List SO → Out) (N nl : Nat) (x0 x9 x10 : SV) (os : List SO) : J105_17 K N nl x0 x9 x10 os = JB105_17 K N nl x0 x9 x10 os := by kernel_rfl
theorem X105_s (K : Nat → List SV → List SO → Out) (N nl : Nat) (x0 x1 x2 x3 : SV) (os : List SO) : X105 K N nl x0 x1 x2 x3 os = B105 K N nl x0 x1 x2 x3 os := by kernel_rfl
theorem X106_s (K : Nat → List SV → List SO → Out) (N nl : Nat) (x0 x1 : SV) (os : List SO) : X106 K N nl x0 x1 os = B106 K N nl x0 x1 os := by kernel_rfl
theorem X113_s (K : Nat → List SV → List SO → Out) (N nl : Nat) (x0 : SV) (os : List SO) : X113 K N nl x0 os = B113 K N nl x0 os := by kernel_rfl
theorem E113 (n : Nat) (x0 : SV) (os : List SO) : callF prg (n + 1) 113 [x0] os = X113 (callF prg n) (n + 1) os.length x0 os := by kernel_rfl
theorem U113 {Q : SV → List SO → Prop} {x0 : SV} {os : List SO} {nl : Nat} (hnl : os.length = nl) (h : Ev (fun n => B113 (callF prg n) (n + 1) nl x0 os) Q) : Ev (fun n => callF prg n 113 [x0] os) Q := by subst hnl; exact ev_fun (fun n => (E113 n _ _).trans (X113_s _ _ _ _ _)) h
theorem X114_s (K : Nat → List SV → List SO → Out) (N nl : Nat) (x0 : SV) (os : List SO) : X114 K N nl x0 os = B114 K N nl x0 os := by kernel_rfl
theorem E114 (n : Nat) (x0 : SV) (os : List SO) : callF prg (n + 1) 114 [x0] os = X114 (callF prg n) (n + 1) os.length x0 os := by kernel_rfl
theorem U114 {Q : SV → List SO → Prop} {x0 : SV} {os : List SO} {nl : Nat} (hnl : os.length = nl) (h : Ev (fun n => B114 (callF prg n) (n + 1) nl x0 os) Q) : Ev (fun n => callF prg n 114 [x0] os) Q := by subst hnl; exact ev_fun (fun n => (E114 n _ _).trans (X114_s _ _ _ _ _)) h
theorem X119_s (K : Nat → List SV → List SO → Out) (N nl : Nat) (x0 : SV) (os : List SO) : X119 K N nl x0 os = B119 K N nl x0 os := by kernel_rfl
theorem E119 (n : Nat) (x0 : SV) (os : List SO) : callF prg (n + 1) 119 [x0] os = X119 (callF prg n) (n + 1) os.length x0 os := by kernel_rfl
theorem U119 {Q : SV → List SO → Prop} {x0 : SV} {os : List SO} {nl : Nat} (hnl : os.length = nl) (h : Ev (fun n => B119 (callF prg n) (n + 1) nl x0 os) Q) : Ev (fun n => callF prg n 119 [x0] os) Q := by subst hnl; exact ev_fun (fun n => (E119 n _ _).trans (X119_s _ _ _ _ _)) h
theorem X122_s (K : Nat → List SV → List SO → Out) (N nl : Nat) (x0 x1 : SV) (os : List SO) : X122 K N nl x0 x1 os = B122 K N nl x0 x1 os := by kernel_rfl
end Go.Proofs.YtebaiioejagfoaaGreatDoor

/- The evaluator S: the tables of this seat are right (by the kernel). -/
namespace Go.Proofs.YtebaiioejagfoaaGreatDoor
open Go
set_option maxRecDepth 100000
theorem tabR : TabOk Tryz.prog tab := tab_ok (by kernel_rfl) (by kernel_rfl) (by kernel_rfl)
def codesOk (P : Program) (fis : Nat → FnI) : Nat → List (Option Func) → Prop
  | _, [] => True
  | k, none :: l => codesOk P fis (k + 1) l
  | k, some fn :: l => (P.funcs[k]? = some fn ∧ (fn.name == "runtime.NumGoroutine") = false ∧ (fis k).nt ≤ fn.ntmps) ∧ codesOk P fis (k + 1) l
theorem codesOk_get {P : Program} {fis : Nat → FnI} : ∀ {l : List (Option Func)} {k : Nat}, codesOk P fis k l → ∀ (f : Nat) (fn : Func), l[f]? = some (some fn) → P.funcs[k + f]? = some fn ∧ (fn.name == "runtime.NumGoroutine") = false ∧ (fis (k + f)).nt ≤ fn.ntmps
  | [], _, _, f, fn, h => by simp at h
  | x :: l, k, hc, f, fn, h => by
    cases f with
    | zero =>
      simp at h; subst h
      exact hc.1
    | succ f =>
      have hl : codesOk P fis (k + 1) l := by
        cases x with
        | none => exact hc
        | some g => exact hc.2
      have := codesOk_get hl f fn (by simpa using h)
      rw [show k + (f + 1) = k + 1 + f by omega]; exact this
theorem cok3 : Tryz.prog.funcs[3]? = some Tryz.f3 ∧ (Tryz.f3.name == "runtime.NumGoroutine") = false ∧ (prg.fi 3).nt ≤ Tryz.f3.ntmps := ⟨Tryz.func3, by kernel_rfl, Nat.le_of_ble_eq_true (by kernel_rfl)⟩
theorem cok4 : Tryz.prog.funcs[4]? = some Tryz.f4 ∧ (Tryz.f4.name == "runtime.NumGoroutine") = false ∧ (prg.fi 4).nt ≤ Tryz.f4.ntmps := ⟨Tryz.func4, by kernel_rfl, Nat.le_of_ble_eq_true (by kernel_rfl)⟩
theorem cok5 : Tryz.prog.funcs[5]? = some Tryz.f5 ∧ (Tryz.f5.name == "runtime.NumGoroutine") = false ∧ (prg.fi 5).nt ≤ Tryz.f5.ntmps := ⟨Tryz.func5, by kernel_rfl, Nat.le_of_ble_eq_true (by kernel_rfl)⟩
theorem cok6 : Tryz.prog.funcs[6]? = some Tryz.f6 ∧ (Tryz.f6.name == "runtime.NumGoroutine") = false ∧ (prg.fi 6).nt ≤ Tryz.f6.ntmps := ⟨Tryz.func6, by kernel_rfl, Nat.le_of_ble_eq_true (by kernel_rfl)⟩
theorem cok7 : Tryz.prog.funcs[7]? = some Tryz.f7 ∧ (Tryz.f7.name == "runtime.NumGoroutine") = false ∧ (prg.fi 7).nt ≤ Tryz.f7.ntmps := ⟨Tryz.func7, by kernel_rfl, Nat.le_of_ble_eq_true (by kernel_rfl)⟩
theorem cok8 : Tryz.prog.funcs[8]? = some Tryz.f8 ∧ (Tryz.f8.name == "runtime.NumGoroutine") = false ∧ (prg.fi 8).nt ≤ Tryz.f8.ntmps := ⟨Tryz.func8, by kernel_rfl, Nat.le_of_ble_eq_true (by kernel_rfl)⟩
theorem cok9 : Tryz.prog.funcs[9]? = some Tryz.f9 ∧ (Tryz.f9.name == "runtime.NumGoroutine") = false ∧ (prg.fi 9).nt ≤ Tryz.f9.ntmps := ⟨Tryz.func9, by kernel_rfl, Nat.le_of_ble_eq_true (by kernel_rfl)⟩
theorem cok10 : Tryz.prog.funcs[10]? = some Tryz.f10 ∧ (Tryz.f10.name == "runtime.NumGoroutine") = false ∧ (prg.fi 10).nt ≤ Tryz.f10.ntmps := ⟨Tryz.func10, by kernel_rfl, Nat.le_of_ble_eq_true (by kernel_rfl)⟩
theorem cok11 : Tryz.prog.funcs[11]? = some Tryz.f11 ∧ (Tryz.f11.name == "runtime.NumGoroutine") = false ∧ (prg.fi 11).nt ≤ Tryz.f11.ntmps := ⟨Tryz.func11, by kernel_rfl, Nat.le_of_ble_eq_true (by kernel_rfl)⟩
theorem cok12 : Tryz.prog.funcs[12]? = some Tryz.f12 ∧ (Tryz.f12.name == "runtime.NumGoroutine") = false ∧ (prg.fi 12).nt ≤ Tryz.f12.ntmps := ⟨Tryz.func12, by kernel_rfl, Nat.le_of_ble_eq_true (by kernel_rfl)⟩
theorem cok13 : Tryz.prog.funcs[13]? = some Tryz.f13 ∧ (Tryz.f13.name == "runtime.NumGoroutine") = false ∧ (prg.fi 13).nt ≤ Tryz.f13.ntmps := ⟨Tryz.func13, by kernel_rfl, Nat.le_of_ble_eq_true (by kernel_rfl)⟩
theorem cok14 : Tryz.prog.funcs[14]? = some Tryz.f14 ∧ (Tryz.f14.name == "runtime.NumGoroutine") = false ∧ (prg.fi 14).nt ≤ Tryz.f14.ntmps := ⟨Tryz.func14, by kernel_rfl, Nat.le_of_ble_eq_true (by kernel_rfl)⟩
theorem cok15 : Tryz.prog.funcs[15]? = some Tryz.f15 ∧ (Tryz.f15.name == "runtime.NumGoroutine") = false ∧ (prg.fi 15).nt ≤ Tryz.f15.ntmps := ⟨Tryz.func15, by kernel_rfl, Nat.le_of_ble_eq_true (by kernel_rfl)⟩
theorem cok16 : Tryz.prog.funcs[16]? = some Tryz.f16 ∧ (Tryz.f16.name == "runtime.NumGoroutine") = false ∧ (prg.fi 16).nt ≤ Tryz.f16.ntmps := ⟨Tryz.func16, by kernel_rfl, Nat.le_of_ble_eq_true (by kernel_rfl)⟩
theorem cok17 : Tryz.prog.funcs[17]? = some Tryz.f17 ∧ (Tryz.f17.name == "runtime.NumGoroutine") = false ∧ (prg.fi 17).nt ≤ Tryz.f17.ntmps := ⟨Tryz.func17, by kernel_rfl, Nat.le_of_ble_eq_true (by kernel_rfl)⟩
theorem cok18 : Tryz.prog.funcs[18]? = some Tryz.f18 ∧ (Tryz.f18.name == "runtime.NumGoroutine") = false ∧ (prg.fi 18).nt ≤ Tryz.f18.ntmps := ⟨Tryz.func18, by kernel_rfl, Nat.le_of_ble_eq_true (by kernel_rfl)⟩
theorem cok19 : Tryz.prog.funcs[19]? = some Tryz.f19 ∧ (Tryz.f19.name == "runtime.NumGoroutine") = false ∧ (prg.fi 19).nt ≤ Tryz.f19.ntmps := ⟨Tryz.func19, by kernel_rfl, Nat.le_of_ble_eq_true (by kernel_rfl)⟩
theorem cok20 : Tryz.prog.funcs[20]? = some Tryz.f20 ∧ (Tryz.f20.name == "runtime.NumGoroutine") = false ∧ (prg.fi 20).nt ≤ Tryz.f20.ntmps := ⟨Tryz.func20, by kernel_rfl, Nat.le_of_ble_eq_true (by kernel_rfl)⟩
theorem cok21 : Tryz.prog.funcs[21]? = some Tryz.f21 ∧ (Tryz.f21.name == "runtime.NumGoroutine") = false ∧ (prg.fi 21).nt ≤ Tryz.f21.ntmps := ⟨Tryz.func21, by kernel_rfl, Nat.le_of_ble_eq_true (by kernel_rfl)⟩
theorem cok22 : Tryz.prog.funcs[22]? = some Tryz.f22 ∧ (Tryz.f22.name == "runtime.NumGoroutine") = false ∧ (prg.fi 22).nt ≤ Tryz.f22.ntmps := ⟨Tryz.func22, by kernel_rfl, Nat.le_of_ble_eq_true (by kernel_rfl)⟩
theorem cok23 : Tryz.prog.funcs[23]? = some Tryz.f23 ∧ (Tryz.f23.name == "runtime.NumGoroutine") = false ∧ (prg.fi 23).nt ≤ Tryz.f23.ntmps := ⟨Tryz.func23, by kernel_rfl, Nat.le_of_ble_eq_true (by kernel_rfl)⟩
theorem cok24 : Tryz.prog.funcs[24]? = some Tryz.f24 ∧ (Tryz.f24.name == "runtime.NumGoroutine") = false ∧ (prg.fi 24).nt ≤ Tryz.f24.ntmps := ⟨Tryz.func24, by kernel_rfl, Nat.le_of_ble_eq_true (by kernel_rfl)⟩
theorem cok25 : Tryz.prog.funcs[25]? = some Tryz.f25 ∧ (Tryz.f25.name == "runtime.NumGoroutine") = false ∧ (prg.fi 25).nt ≤ Tryz.f25.ntmps := ⟨Tryz.func25, by kernel_rfl, Nat.le_of_ble_eq_true (by kernel_rfl)⟩
theorem cok26 : Tryz.prog.funcs[26]? = some Tryz.f26 ∧ (Tryz.f26.name == "runtime.NumGoroutine") = false ∧ (prg.fi 26).nt ≤ Tryz.f26.ntmps := ⟨Tryz.func26, by kernel_rfl, Nat.le_of_ble_eq_true (by kernel_rfl)⟩
theorem cok27 : Tryz.prog.funcs[27]? = some Tryz.f27 ∧ (Tryz.f27.name == "runtime.NumGoroutine") = false ∧ (prg.fi 27).nt ≤ Tryz.f27.ntmps := ⟨Tryz.func27, by kernel_rfl, Nat.le_of_ble_eq_true (by kernel_rfl)⟩
theorem cok28 : Tryz.prog.funcs[28]? = some Tryz.f28 ∧ (Tryz.f28.name == "runtime.NumGoroutine") = false ∧ (prg.fi 28).nt ≤ Tryz.f28.ntmps := ⟨Tryz.func28, by kernel_rfl, Nat.le_of_ble_eq_true (by kernel_rfl)⟩
theorem cok29 : Tryz.prog.funcs[29]? = some Tryz.f29 ∧ (Tryz.f29.name == "runtime.NumGoroutine") = false ∧ (prg.fi 29).nt ≤ Tryz.f29.ntmps := ⟨Tryz.func29, by kernel_rfl, Nat.le_of_ble_eq_true (by kernel_rfl)⟩
theorem cok30 : Tryz.prog.funcs[30]? = some Tryz.f30 ∧ (Tryz.f30.name == "runtime.NumGoroutine") = false ∧ (prg.fi 30).nt ≤ Tryz.f30.ntmps := ⟨Tryz.func30, by kernel_rfl, Nat.le_of_ble_eq_true (by kernel_rfl)⟩
theorem cok31 : Tryz.prog.funcs[31]? = some Tryz.f31 ∧ (Tryz.f31.name == "runtime.NumGoroutine") = false ∧ (prg.fi 31).nt ≤ Tryz.f31.ntmps := ⟨Tryz.func31, by kernel_rfl, Nat.le_of_ble_eq_true (by kernel_rfl)⟩
theorem cok32 : Tryz.prog.funcs[32]? = some Tryz.f32 ∧ (Tryz.f32.name == "runtime.NumGoroutine") = false ∧ (prg.fi 32).nt ≤ Tryz.f32.ntmps := ⟨Tryz.func32, by kernel_rfl, Nat.le_of_ble_eq_true (by kernel_rfl)⟩
theorem cok33 : Tryz.prog.funcs[33]? = some Tryz.f33 ∧ (Tryz.f33.name == "runtime.NumGoroutine") = false ∧ (prg.fi 33).nt ≤ Tryz.f33.ntmps := ⟨Tryz.func33, by kernel_rfl, Nat.le_of_ble_eq_true (by kernel_rfl)⟩
theorem cok34 : Tryz.prog.funcs[34]? = some Tryz.f34 ∧ (Tryz.f34.name == "runtime.NumGoroutine") = false ∧ (prg.fi 34).nt ≤ Tryz.f34.ntmps := ⟨Tryz.func34, by kernel_rfl, Nat.le_of_ble_eq_true (by kernel_rfl)⟩
theorem cok35 : Tryz.prog.funcs[35]? = some Tryz.f35 ∧ (Tryz.f35.name == "runtime.NumGoroutine") = false ∧ (prg.fi 35).nt ≤ Tryz.f35.ntmps := ⟨Tryz.func35, by kernel_rfl, Nat.le_of_ble_eq_true (by kernel_rfl)⟩
theorem cok36 : Tryz.prog.funcs[36]? = some Tryz.f36 ∧ (Tryz.f36.name == "runtime.NumGoroutine") = false ∧ (prg.fi 36).nt ≤ Tryz.f36.ntmps := ⟨Tryz.func36, by kernel_rfl, Nat.le_of_ble_eq_true (by kernel_rfl)⟩
theorem cok37 : Tryz.prog.funcs[37]? = some Tryz.f37 ∧ (Tryz.f37.name == "runtime.NumGoroutine") = false ∧ (prg.fi 37).nt ≤ Tryz.f37.ntmps := ⟨Tryz.func37, by kernel_rfl, Nat.le_of_ble_eq_true (by kernel_rfl)⟩
theorem cok38 : Tryz.prog.funcs[38]? = some Tryz.f38 ∧ (Tryz.f38.name == "runtime.NumGoroutine") = false ∧ (prg.fi 38).nt ≤ Tryz.f38.ntmps := ⟨Tryz.func38, by kernel_rfl, Nat.le_of_ble_eq_true (by kernel_rfl)⟩
theorem cok39 : Tryz.prog.funcs[39]? = some Tryz.f39 ∧ (Tryz.f39.name == "runtime.NumGoroutine") = false ∧ (prg.fi 39).nt ≤ Tryz.f39.ntmps := ⟨Tryz.func39, by kernel_rfl, Nat.le_of_ble_eq_true (by kernel_rfl)⟩
theorem cok40 : Tryz.prog.funcs[40]? = some Tryz.f40 ∧ (Tryz.f40.name == "runtime.NumGoroutine") = false ∧ (prg.fi 40).nt ≤ Tryz.f40.ntmps := ⟨Tryz.func40, by kernel_rfl, Nat.le_of_ble_eq_true (by kernel_rfl)⟩
theorem cok41 : Tryz.prog.funcs[41]? = some Tryz.f41 ∧ (Tryz.f41.name == "runtime.NumGoroutine") = false ∧ (prg.fi 41).nt ≤ Tryz.f41.ntmps := ⟨Tryz.func41, by kernel_rfl, Nat.le_of_ble_eq_true (by kernel_rfl)⟩
theorem cok42 : Tryz.prog.funcs[42]? = some Tryz.f42 ∧ (Tryz.f42.name == "runtime.NumGoroutine") = false ∧ (prg.fi 42).nt ≤ Tryz.f42.ntmps := ⟨Tryz.func42, by kernel_rfl, Nat.le_of_ble_eq_true (by kernel_rfl)⟩
theorem cok43 : Tryz.prog.funcs[43]? = some Tryz.f43 ∧ (Tryz.f43.name == "runtime.NumGoroutine") = false ∧ (prg.fi 43).nt ≤ Tryz.f43.ntmps := ⟨Tryz.func43, by kernel_rfl, Nat.le_of_ble_eq_true (by kernel_rfl)⟩
theorem cok44 : Tryz.prog.funcs[44]? = some Tryz.f44 ∧ (Tryz.f44.name == "runtime.NumGoroutine") = false ∧ (prg.fi 44).nt ≤ Tryz.f44.ntmps := ⟨Tryz.func44, by kernel_rfl, Nat.le_of_ble_eq_true (by kernel_rfl)⟩
theorem cok45 : Tryz.prog.funcs[45]? = some Tryz.f45 ∧ (Tryz.f45.name == "runtime.NumGoroutine") = false ∧ (prg.fi 45).nt ≤ Tryz.f45.ntmps := ⟨Tryz.func45, by kernel_rfl, Nat.le_of_ble_eq_true (by kernel_rfl)⟩
theorem cok46 : Tryz.prog.funcs[46]? = some Tryz.f46 ∧ (Tryz.f46.name == "runtime.NumGoroutine") = false ∧ (prg.fi 46).nt ≤ Tryz.f46.ntmps := ⟨Tryz.func46, by kernel_rfl, Nat.le_of_ble_eq_true (by kernel_rfl)⟩
theorem cok47 : Tryz.prog.funcs[47]? = some Tryz.f47 ∧ (Tryz.f47.name == "runtime.NumGoroutine") = false ∧ (prg.fi 47).nt ≤ Tryz.f47.ntmps := ⟨Tryz.func47, by kernel_rfl, Nat.le_of_ble_eq_true (by kernel_rfl)⟩
theorem cok48 : Tryz.prog.funcs[48]? = some Tryz.f48 ∧ (Tryz.f48.name == "runtime.NumGoroutine") = false ∧ (prg.fi 48).nt ≤ Tryz.f48.ntmps := ⟨Tryz.func48, by kernel_rfl, Nat.le_of_ble_eq_true (by kernel_rfl)⟩
theorem cok49 : Tryz.prog.funcs[49]? = some Tryz.f49 ∧ (Tryz.f49.name == "runtime.NumGoroutine") = false ∧ (prg.fi 49).nt ≤ Tryz.f49.ntmps := ⟨Tryz.func49, by kernel_rfl, Nat.le_of_ble_eq_true (by kernel_rfl)⟩
theorem cok50 : Tryz.prog.funcs[50]? = some Tryz.f50 ∧ (Tryz.f50.name == "runtime.NumGoroutine") = false ∧ (prg.fi 50).nt ≤ Tryz.f50.ntmps := ⟨Tryz.func50, by kernel_rfl, Nat.le_of_ble_eq_true (by kernel_rfl)⟩
theorem cok51 : Tryz.prog.funcs[51]? = some Tryz.f51 ∧ (Tryz.f51.name == "runtime.NumGoroutine") = false ∧ (prg.fi 51).nt ≤ Tryz.f51.ntmps := ⟨Tryz.func51, by kernel_rfl, Nat.le_of_ble_eq_true (by kernel_rfl)⟩
theorem cok52 : Tryz.prog.funcs[52]? = some Tryz.f52 ∧ (Tryz.f52.name == "runtime.NumGoroutine") = false ∧ (prg.fi 52).nt ≤ Tryz.f52.ntmps := ⟨Tryz.func52, by kernel_rfl, Nat.le_of_ble_eq_true (by kernel_rfl)⟩
theorem cok53 : Tryz.prog.funcs[53]? = some Tryz.f53 ∧ (Tryz.f53.name == "runtime.NumGoroutine") = false ∧ (prg.fi 53).nt ≤ Tryz.f53.ntmps := ⟨Tryz.func53, by kernel_rfl, Nat.le_of_ble_eq_true (by kernel_rfl)⟩
theorem cok54 : Tryz.prog.funcs[54]? = some Tryz.f54 ∧ (Tryz.f54.name == "runtime.NumGoroutine") = false ∧ (prg.fi 54).nt ≤ Tryz.f54.ntmps := ⟨Tryz.func54, by kernel_rfl, Nat.le_of_ble_eq_true (by kernel_rfl)⟩
theorem cok55 : Tryz.prog.funcs[55]? = some Tryz.f55 ∧ (Tryz.f55.name == "runtime.NumGoroutine") = false ∧ (prg.fi 55).nt ≤ Tryz.f55.ntmps := ⟨Tryz.func55, by kernel_rfl, Nat.le_of_ble_eq_true (by kernel_rfl)⟩
theorem cok56 : Tryz.prog.funcs[56]? = some Tryz.f56 ∧ (Tryz.f56.name == "runtime.NumGoroutine") = false ∧ (prg.fi 56).nt ≤ Tryz.f56.ntmps := ⟨Tryz.func56, by kernel_rfl, Nat.le_of_ble_eq_true (by kernel_rfl)⟩
theorem cok57 : Tryz.prog.funcs[57]? = some Tryz.f57 ∧ (Tryz.f57.name == "runtime.NumGoroutine") = false ∧ (prg.fi 57).nt ≤ Tryz.f57.ntmps := ⟨Tryz.func57, by kernel_rfl, Nat.le_of_ble_eq_true (by kernel_rfl)⟩
theorem cok58 : Tryz.prog.funcs[58]? = some Tryz.f58 ∧ (Tryz.f58.name == "runtime.NumGoroutine") = false ∧ (prg.fi 58).nt ≤ Tryz.f58.ntmps := ⟨Tryz.func58, by kernel_rfl, Nat.le_of_ble_eq_true (by kernel_rfl)⟩
theorem cok59 : Tryz.prog.funcs[59]? = some Tryz.f59 ∧ (Tryz.f59.name == "runtime.NumGoroutine") = false ∧ (prg.fi 59).nt ≤ Tryz.f59.ntmps := ⟨Tryz.func59, by kernel_rfl, Nat.le_of_ble_eq_true (by kernel_rfl)⟩
theorem cok60 : Tryz.prog.funcs[60]? = some Tryz.f60 ∧ (Tryz.f60.name == "runtime.NumGoroutine") = false ∧ (prg.fi 60).nt ≤ Tryz.f60.ntmps := ⟨Tryz.func60, by kernel_rfl, Nat.le_of_ble_eq_true (by kernel_rfl)⟩
theorem cok61 : Tryz.prog.funcs[61]? = some Tryz.f61 ∧ (Tryz.f61.name == "runtime.NumGoroutine") = false ∧ (prg.fi 61).nt ≤ Tryz.f61.ntmps := ⟨Tryz.func61, by kernel_rfl, Nat.le_of_ble_eq_true (by kernel_rfl)⟩
theorem cok62 : Tryz.prog.funcs[62]? = some Tryz.f62 ∧ (Tryz.f62.name == "runtime.NumGoroutine") = false ∧ (prg.fi 62).nt ≤ Tryz.f62.ntmps := ⟨Tryz.func62, by kernel_rfl, Nat.le_of_ble_eq_true (by kernel_rfl)⟩
theorem cok63 : Tryz.prog.funcs[63]? = some Tryz.f63 ∧ (Tryz.f63.name == "runtime.NumGoroutine") = false ∧ (prg.fi 63).nt ≤ Tryz.f63.ntmps := ⟨Tryz.func63, by kernel_rfl, Nat.le_of_ble_eq_true (by kernel_rfl)⟩
theorem cok64 : Tryz.prog.funcs[64]? = some Tryz.f64 ∧ (Tryz.f64.name == "runtime.NumGoroutine") = false ∧ (prg.fi 64).nt ≤ Tryz.f64.ntmps := ⟨Tryz.func64, by kernel_rfl, Nat.le_of_ble_eq_true (by kernel_rfl)⟩
theorem cok65 : Tryz.prog.funcs[65]? = some Tryz.f65 ∧ (Tryz.f65.name == "runtime.NumGoroutine") = false ∧ (prg.fi 65).nt ≤ Tryz.f65.ntmps := ⟨Tryz.func65, by kernel_rfl, Nat.le_of_ble_eq_true (by kernel_rfl)⟩
theorem cok66 : Tryz.prog.funcs[66]? = some Tryz.f66 ∧ (Tryz.f66.name == "runtime.NumGoroutine") = false ∧ (prg.fi 66).nt ≤ Tryz.f66.ntmps := ⟨Tryz.func66, by kernel_rfl, Nat.le_of_ble_eq_true (by kernel_rfl)⟩
theorem cok67 : Tryz.prog.funcs[67]? = some Tryz.f67 ∧ (Tryz.f67.name == "runtime.NumGoroutine") = false ∧ (prg.fi 67).nt ≤ Tryz.f67.ntmps := ⟨Tryz.func67, by kernel_rfl, Nat.le_of_ble_eq_true (by kernel_rfl)⟩
theorem cok68 : Tryz.prog.funcs[68]? = some Tryz.f68 ∧ (Tryz.f68.name == "runtime.NumGoroutine") = false ∧ (prg.fi 68).nt ≤ Tryz.f68.ntmps := ⟨Tryz.func68, by kernel_rfl, Nat.le_of_ble_eq_true (by kernel_rfl)⟩
theorem cok69 : Tryz.prog.funcs[69]? = some Tryz.f69 ∧ (Tryz.f69.name == "runtime.NumGoroutine") = false ∧ (prg.fi 69).nt ≤ Tryz.f69.ntmps := ⟨Tryz.func69, by kernel_rfl, Nat.le_of_ble_eq_true (by kernel_rfl)⟩
theorem cok70 : Tryz.prog.funcs[70]? = some Tryz.f70 ∧ (Tryz.f70.name == "runtime.NumGoroutine") = false ∧ (prg.fi 70).nt ≤ Tryz.f70.ntmps := ⟨Tryz.func70, by kernel_rfl, Nat.le_of_ble_eq_true (by kernel_rfl)⟩
theorem cok71 : Tryz.prog.funcs[71]? = some Tryz.f71 ∧ (Tryz.f71.name == "runtime.NumGoroutine") = false ∧ (prg.fi 71).nt ≤ Tryz.f71.ntmps := ⟨Tryz.func71, by kernel_rfl, Nat.le_of_ble_eq_true (by kernel_rfl)⟩
theorem cok72 : Tryz.prog.funcs[72]? = some Tryz.f72 ∧ (Tryz.f72.name == "runtime.NumGoroutine") = false ∧ (prg.fi 72).nt ≤ Tryz.f72.ntmps := ⟨Tryz.func72, by kernel_rfl, Nat.le_of_ble_eq_true (by kernel_rfl)⟩
theorem cok73 : Tryz.prog.funcs[73]? = some Tryz.f73 ∧ (Tryz.f73.name == "runtime.NumGoroutine") = false ∧ (prg.fi 73).nt ≤ Tryz.f73.ntmps := ⟨Tryz.func73, by kernel_rfl, Nat.le_of_ble_eq_true (by kernel_rfl)⟩
theorem cok74 : Tryz.prog.funcs[74]? = some Tryz.f74 ∧ (Tryz.f74.name == "runtime.NumGoroutine") = false ∧ (prg.fi 74).nt ≤ Tryz.f74.ntmps := ⟨Tryz.func74, by kernel_rfl, Nat.le_of_ble_eq_true (by kernel_rfl)⟩
theorem cok75 : Tryz.prog.funcs[75]? = some Tryz.f75 ∧ (Tryz.f75.name == "runtime.NumGoroutine") = false ∧ (prg.fi 75).nt ≤ Tryz.f75.ntmps := ⟨Tryz.func75, by kernel_rfl, Nat.le_of_ble_eq_true (by kernel_rfl)⟩
theorem cok76 : Tryz.prog.funcs[76]? = some Tryz.f76 ∧ (Tryz.f76.name == "runtime.NumGoroutine") = false ∧ (prg.fi 76).nt ≤ Tryz.f76.ntmps := ⟨Tryz.func76, by kernel_rfl, Nat.le_of_ble_eq_true (by kernel_rfl)⟩
theorem cok77 : Tryz.prog.funcs[77]? = some Tryz.f77 ∧ (Tryz.f77.name == "runtime.NumGoroutine") = false ∧ (prg.fi 77).nt ≤ Tryz.f77.ntmps := ⟨Tryz.func77, by kernel_rfl, Nat.le_of_ble_eq_true (by kernel_rfl)⟩
theorem cok78 : Tryz.prog.funcs[78]? = some Tryz.f78 ∧ (Tryz.f78.name == "runtime.NumGoroutine") = false ∧ (prg.fi 78).nt ≤ Tryz.f78.ntmps := ⟨Tryz.func78, by kernel_rfl, Nat.le_of_ble_eq_true (by kernel_rfl)⟩
theorem cok79 : Tryz.prog.funcs[79]? = some Tryz.f79 ∧ (Tryz.f79.name == "runtime.NumGoroutine") = false ∧ (prg.fi 79).nt ≤ Tryz.f79.ntmps := ⟨Tryz.func79, by kernel_rfl, Nat.le_of_ble_eq_true (by kernel_rfl)⟩
theorem cok80 : Tryz.prog.funcs[80]? = some Tryz.f80 ∧ (Tryz.f80.name == "runtime.NumGoroutine") = false ∧ (prg.fi 80).nt ≤ Tryz.f80.ntmps := ⟨Tryz.func80, by kernel_rfl, Nat.le_of_ble_eq_true (by kernel_rfl)⟩
theorem cok81 : Tryz.prog.funcs[81]? = some Tryz.f81 ∧ (Tryz.f81.name == "runtime.NumGoroutine") = false ∧ (prg.fi 81).nt ≤ Tryz.f81.ntmps := ⟨Tryz.func81, by kernel_rfl, Nat.le_of_ble_eq_true (by kernel_rfl)⟩
theorem cok82 : Tryz.prog.funcs[82]? = some Tryz.f82 ∧ (Tryz.f82.name == "runtime.NumGoroutine") = false ∧ (prg.fi 82).nt ≤ Tryz.f82.ntmps := ⟨Tryz.func82, by kernel_rfl, Nat.le_of_ble_eq_true (by kernel_rfl)⟩
theorem cok83 : Tryz.prog.funcs[83]? = some Tryz.f83 ∧ (Tryz.f83.name == "runtime.NumGoroutine") = false ∧ (prg.fi 83).nt ≤ Tryz.f83.ntmps := ⟨Tryz.func83, by kernel_rfl, Nat.le_of_ble_eq_true (by kernel_rfl)⟩
theorem cok84 : Tryz.prog.funcs[84]? = some Tryz.f84 ∧ (Tryz.f84.name == "runtime.NumGoroutine") = false ∧ (prg.fi 84).nt ≤ Tryz.f84.ntmps := ⟨Tryz.func84, by kernel_rfl, Nat.le_of_ble_eq_true (by kernel_rfl)⟩
theorem cok85 : Tryz.prog.funcs[85]? = some Tryz.f85 ∧ (Tryz.f85.name == "runtime.NumGoroutine") = false ∧ (prg.fi 85).nt ≤ Tryz.f85.ntmps := ⟨Tryz.func85, by kernel_rfl, Nat.le_of_ble_eq_true (by kernel_rfl)⟩
theorem cok86 : Tryz.prog.funcs[86]? = some Tryz.f86 ∧ (Tryz.f86.name == "runtime.NumGoroutine") = false ∧ (prg.fi 86).nt ≤ Tryz.f86.ntmps := ⟨Tryz.func86, by kernel_rfl, Nat.le_of_ble_eq_true (by kernel_rfl)⟩
theorem cok87 : Tryz.prog.funcs[87]? = some Tryz.f87 ∧ (Tryz.f87.name == "runtime.NumGoroutine") = false ∧ (prg.fi 87).nt ≤ Tryz.f87.ntmps := ⟨Tryz.func87, by kernel_rfl, Nat.le_of_ble_eq_true (by kernel_rfl)⟩
theorem cok88 : Tryz.prog.funcs[88]? = some Tryz.f88 ∧ (Tryz.f88.name == "runtime.NumGoroutine") = false ∧ (prg.fi 88).nt ≤ Tryz.f88.ntmps := ⟨Tryz.func88, by kernel_rfl, Nat.le_of_ble_eq_true (by kernel_rfl)⟩
theorem cok89 : Tryz.prog.funcs[89]? = some Tryz.f89 ∧ (Tryz.f89.name == "runtime.NumGoroutine") = false ∧ (prg.fi 89).nt ≤ Tryz.f89.ntmps := ⟨Tryz.func89, by kernel_rfl, Nat.le_of_ble_eq_true (by kernel_rfl)⟩
theorem cok90 : Tryz.prog.funcs[90]? = some Tryz.f90 ∧ (Tryz.f90.name == "runtime.NumGoroutine") = false ∧ (prg.fi 90).nt ≤ Tryz.f90.ntmps := ⟨Tryz.func90, by kernel_rfl, Nat.le_of_ble_eq_true (by kernel_rfl)⟩
theorem cok91 : Tryz.prog.funcs[91]? = some Tryz.f91 ∧ (Tryz.f91.name == "runtime.NumGoroutine") = false ∧ (prg.fi 91).nt ≤ Tryz.f91.ntmps := ⟨Tryz.func91, by kernel_rfl, Nat.le_of_ble_eq_true (by kernel_rfl)⟩
theorem cok92 : Tryz.prog.funcs[92]? = some Tryz.f92 ∧ (Tryz.f92.name == "runtime.NumGoroutine") = false ∧ (prg.fi 92).nt ≤ Tryz.f92.ntmps := ⟨Tryz.func92, by kernel_rfl, Nat.le_of_ble_eq_true (by kernel_rfl)⟩
theorem cok93 : Tryz.prog.funcs[93]? = some Tryz.f93 ∧ (Tryz.f93.name == "runtime.NumGoroutine") = false ∧ (prg.fi 93).nt ≤ Tryz.f93.ntmps := ⟨Tryz.func93, by kernel_rfl, Nat.le_of_ble_eq_true (by kernel_rfl)⟩
theorem cok94 : Tryz.prog.funcs[94]? = some Tryz.f94 ∧ (Tryz.f94.name == "runtime.NumGoroutine") = false ∧ (prg.fi 94).nt ≤ Tryz.f94.ntmps := ⟨Tryz.func94, by kernel_rfl, Nat.le_of_ble_eq_true (by kernel_rfl)⟩
theorem cok95 : Tryz.prog.funcs[95]? = some Tryz.f95 ∧ (Tryz.f95.name == "runtime.NumGoroutine") = false ∧ (prg.fi 95).nt ≤ Tryz.f95.ntmps := ⟨Tryz.func95, by kernel_rfl, Nat.le_of_ble_eq_true (by kernel_rfl)⟩
theorem cok96 : Tryz.prog.funcs[96]? = some Tryz.f96 ∧ (Tryz.f96.name == "runtime.NumGoroutine") = false ∧ (prg.fi 96).nt ≤ Tryz.f96.ntmps := ⟨Tryz.func96, by kernel_rfl, Nat.le_of_ble_eq_true (by kernel_rfl)⟩
theorem cok97 : Tryz.prog.funcs[97]? = some Tryz.f97 ∧ (Tryz.f97.name == "runtime.NumGoroutine") = false ∧ (prg.fi 97).nt ≤ Tryz.f97.ntmps := ⟨Tryz.func97, by kernel_rfl, Nat.le_of_ble_eq_true (by kernel_rfl)⟩
theorem cok98 : Tryz.prog.funcs[98]? = some Tryz.f98 ∧ (Tryz.f98.name == "runtime.NumGoroutine") = false ∧ (prg.fi 98).nt ≤ Tryz.f98.ntmps := ⟨Tryz.func98, by kernel_rfl, Nat.le_of_ble_eq_true (by kernel_rfl)⟩
theorem cok99 : Tryz.prog.funcs[99]? = some Tryz.f99 ∧ (Tryz.f99.name == "runtime.NumGoroutine") = false ∧ (prg.fi 99).nt ≤ Tryz.f99.ntmps := ⟨Tryz.func99, by kernel_rfl, Nat.le_of_ble_eq_true (by kernel_rfl)⟩
theorem cok100 : Tryz.prog.funcs[100]? = some Tryz.f100 ∧ (Tryz.f100.name == "runtime.NumGoroutine") = false ∧ (prg.fi 100).nt ≤ Tryz.f100.ntmps := ⟨Tryz.func100, by kernel_rfl, Nat.le_of_ble_eq_true (by kernel_rfl)⟩
theorem cok101 : Tryz.prog.funcs[101]? = some Tryz.f101 ∧ (Tryz.f101.name == "runtime.NumGoroutine") = false ∧ (prg.fi 101).nt ≤ Tryz.f101.ntmps := ⟨Tryz.func101, by kernel_rfl, Nat.le_of_ble_eq_true (by kernel_rfl)⟩
theorem cok102 : Tryz.prog.funcs[102]? = some Tryz.f102 ∧ (Tryz.f102.name == "runtime.NumGoroutine") = false ∧ (prg.fi 102).nt ≤ Tryz.f102.ntmps := ⟨Tryz.func102, by kernel_rfl, Nat.le_of_ble_eq_true (by kernel_rfl)⟩
theorem cok103 : Tryz.prog.funcs[103]? = some Tryz.f103 ∧ (Tryz.f103.name == "runtime.NumGoroutine") = false ∧ (prg.fi 103).nt ≤ Tryz.f103.ntmps := ⟨Tryz.func103, by kernel_rfl, Nat.le_of_ble_eq_true (by kernel_rfl)⟩
theorem cok104 : Tryz.prog.funcs[104]? = some Tryz.f104 ∧ (Tryz.f104.name == "runtime.NumGoroutine") = false ∧ (prg.fi 104).nt ≤ Tryz.f104.ntmps := ⟨Tryz.func104, by kernel_rfl, Nat.le_of_ble_eq_true (by kernel_rfl)⟩
theorem cok105 : Tryz.prog.funcs[105]? = some Tryz.f105 ∧ (Tryz.f105.name == "runtime.NumGoroutine") = false ∧ (prg.fi 105).nt ≤ Tryz.f105.ntmps := ⟨Tryz.func105, by kernel_rfl, Nat.le_of_ble_eq_true (by kernel_rfl)⟩
theorem cok106 : Tryz.prog.funcs[106]? = some Tryz.f106 ∧ (Tryz.f106.name == "runtime.NumGoroutine") = false ∧ (prg.fi 106).nt ≤ Tryz.f106.ntmps := ⟨Tryz.func106, by kernel_rfl, Nat.le_of_ble_eq_true (by kernel_rfl)⟩
theorem cok107 : Tryz.prog.funcs[107]? = some Tryz.f107 ∧ (Tryz.f107.name == "runtime.NumGoroutine") = false ∧ (prg.fi 107).nt ≤ Tryz.f107.ntmps := ⟨Tryz.func107, by kernel_rfl, Nat.le_of_ble_eq_true (by kernel_rfl)⟩
theorem cok108 : Tryz.prog.funcs[108]? = some Tryz.f108 ∧ (Tryz.f108.name == "runtime.NumGoroutine") = false ∧ (prg.fi 108).nt ≤ Tryz.f108.ntmps := ⟨Tryz.func108, by kernel_rfl, Nat.le_of_ble_eq_true (by kernel_rfl)⟩
theorem cok110 : Tryz.prog.funcs[110]? = some Tryz.f110 ∧ (Tryz.f110.name == "runtime.NumGoroutine") = false ∧ (prg.fi 110).nt ≤ Tryz.f110.ntmps := ⟨Tryz.func110, by kernel_rfl, Nat.le_of_ble_eq_true (by kernel_rfl)⟩
theorem cok111 : Tryz.prog.funcs[111]? = some Tryz.f111 ∧ (Tryz.f111.name == "runtime.NumGoroutine") = false ∧ (prg.fi 111).nt ≤ Tryz.f111.ntmps := ⟨Tryz.func111, by kernel_rfl, Nat.le_of_ble_eq_true (by kernel_rfl)⟩
theorem cok112 : Tryz.prog.funcs[112]? = some Tryz.f112 ∧ (Tryz.f112.name == "runtime.NumGoroutine") = false ∧ (prg.fi 112).nt ≤ Tryz.f112.ntmps := ⟨Tryz.func112, by kernel_rfl, Nat.le_of_ble_eq_true (by kernel_rfl)⟩
theorem cok113 : Tryz.prog.funcs[113]? = some Tryz.f113 ∧ (Tryz.f113.name == "runtime.NumGoroutine") = false ∧ (prg.fi 113).nt ≤ Tryz.f113.ntmps := ⟨Tryz.func113, by kernel_rfl, Nat.le_of_ble_eq_true (by kernel_rfl)⟩
theorem cok114 : Tryz.prog.funcs[114]? = some Tryz.f114 ∧ (Tryz.f114.name == "runtime.NumGoroutine") = false ∧ (prg.fi 114).nt ≤ Tryz.f114.ntmps := ⟨Tryz.func114, by kernel_rfl, Nat.le_of_ble_eq_true (by kernel_rfl)⟩
theorem cok115 : Tryz.prog.funcs[115]? = some Tryz.f115 ∧ (Tryz.f115.name == "runtime.NumGoroutine") = false ∧ (prg.fi 115).nt ≤ Tryz.f115.ntmps := ⟨Tryz.func115, by kernel_rfl, Nat.le_of_ble_eq_true (by kernel_rfl)⟩
theorem cok116 : Tryz.prog.funcs[116]? = some Tryz.f116 ∧ (Tryz.f116.name == "runtime.NumGoroutine") = false ∧ (prg.fi 116).nt ≤ Tryz.f116.ntmps := ⟨Tryz.func116, by kernel_rfl, Nat.le_of_ble_eq_true (by kernel_rfl)⟩
theorem cok117 : Tryz.prog.funcs[117]? = some Tryz.f117 ∧ (Tryz.f117.name == "runtime.NumGoroutine") = false ∧ (prg.fi 117).nt ≤ Tryz.f117.ntmps := ⟨Tryz.func117, by kernel_rfl, Nat.le_of_ble_eq_true (by kernel_rfl)⟩
theorem cok118 : Tryz.prog.funcs[118]? = some Tryz.f118 ∧ (Tryz.f118.name == "runtime.NumGoroutine") = false ∧ (prg.fi 118).nt ≤ Tryz.f118.ntmps := ⟨Tryz.func118, by kernel_rfl, Nat.le_of_ble_eq_true (by kernel_rfl)⟩
theorem cok119 : Tryz.prog.funcs[119]? = some Tryz.f119 ∧ (Tryz.f119.name == "runtime.NumGoroutine") = false ∧ (prg.fi 119).nt ≤ Tryz.f119.ntmps := ⟨Tryz.func119, by kernel_rfl, Nat.le_of_ble_eq_true (by kernel_rfl)⟩
theorem cok120 : Tryz.prog.funcs[120]? = some Tryz.f120 ∧ (Tryz.f120.name == "runtime.NumGoroutine") = false ∧ (prg.fi 120).nt ≤ Tryz.f120.ntmps := ⟨Tryz.func120, by kernel_rfl, Nat.le_of_ble_eq_true (by kernel_rfl)⟩
theorem cok121 : Tryz.prog.funcs[121]? = some Tryz.f121 ∧ (Tryz.f121.name == "runtime.NumGoroutine") = false ∧ (prg.fi 121).nt ≤ Tryz.f121.ntmps := ⟨Tryz.func121, by kernel_rfl, Nat.le_of_ble_eq_true (by kernel_rfl)⟩
theorem cok122 : Tryz.prog.funcs[122]? = some Tryz.f122 ∧ (Tryz.f122.name == "runtime.NumGoroutine") = false ∧ (prg.fi 122).nt ≤ Tryz.f122.ntmps := ⟨Tryz.func122, by kernel_rfl, Nat.le_of_ble_eq_true (by kernel_rfl)⟩
theorem cok123 : Tryz.prog.funcs[123]? = some Tryz.f123 ∧ (Tryz.f123.name == "runtime.NumGoroutine") = false ∧ (prg.fi 123).nt ≤ Tryz.f123.ntmps := ⟨Tryz.func123, by kernel_rfl, Nat.le_of_ble_eq_true (by kernel_rfl)⟩
theorem cok124 : Tryz.prog.funcs[124]? = some Tryz.f124 ∧ (Tryz.f124.name == "runtime.NumGoroutine") = false ∧ (prg.fi 124).nt ≤ Tryz.f124.ntmps := ⟨Tryz.func124, by kernel_rfl, Nat.le_of_ble_eq_true (by kernel_rfl)⟩
theorem cok125 : Tryz.prog.funcs[125]? = some Tryz.f125 ∧ (Tryz.f125.name == "runtime.NumGoroutine") = false ∧ (prg.fi 125).nt ≤ Tryz.f125.ntmps := ⟨Tryz.func125, by kernel_rfl, Nat.le_of_ble_eq_true (by kernel_rfl)⟩
theorem cok126 : Tryz.prog.funcs[126]? = some Tryz.f126 ∧ (Tryz.f126.name == "runtime.NumGoroutine") = false ∧ (prg.fi 126).nt ≤ Tryz.f126.ntmps := ⟨Tryz.func126, by kernel_rfl, Nat.le_of_ble_eq_true (by kernel_rfl)⟩
theorem cok127 : Tryz.prog.funcs[127]? = some Tryz.f127 ∧ (Tryz.f127.name == "runtime.NumGoroutine") = false ∧ (prg.fi 127).nt ≤ Tryz.f127.ntmps := ⟨Tryz.func127, by kernel_rfl, Nat.le_of_ble_eq_true (by kernel_rfl)⟩
theorem cok128 : Tryz.prog.funcs[128]? = some Tryz.f128 ∧ (Tryz.f128.name == "runtime.NumGoroutine") = false ∧ (prg.fi 128).nt ≤ Tryz.f128.ntmps := ⟨Tryz.func128, by kernel_rfl, Nat.le_of_ble_eq_true (by kernel_rfl)⟩
theorem cok129 : Tryz.prog.funcs[129]? = some Tryz.f129 ∧ (Tryz.f129.name == "runtime.NumGoroutine") = false ∧ (prg.fi 129).nt ≤ Tryz.f129.ntmps := ⟨Tryz.func129, by kernel_rfl, Nat.le_of_ble_eq_true (by kernel_rfl)⟩
theorem cok130 : Tryz.prog.funcs[130]? = some Tryz.f130 ∧ (Tryz.f130.name == "runtime.NumGoroutine") = false ∧ (prg.fi 130).nt ≤ Tryz.f130.ntmps := ⟨Tryz.func130, by kernel_rfl, Nat.le_of_ble_eq_true (by kernel_rfl)⟩
theorem cok131 : Tryz.prog.funcs[131]? = some Tryz.f131 ∧ (Tryz.f131.name == "runtime.NumGoroutine") = false ∧ (prg.fi 131).nt ≤ Tryz.f131.ntmps := ⟨Tryz.func131, by kernel_rfl, Nat.le_of_ble_eq_true (by kernel_rfl)⟩
theorem cok132 : Tryz.prog.funcs[132]? = some Tryz.f132 ∧ (Tryz.f132.name == "runtime.NumGoroutine") = false ∧ (prg.fi 132).nt ≤ Tryz.f132.ntmps := ⟨Tryz.func132, by kernel_rfl, Nat.le_of_ble_eq_true (by kernel_rfl)⟩
theorem cok133 : Tryz.prog.funcs[133]? = some Tryz.f133 ∧ (Tryz.f133.name == "runtime.NumGoroutine") = false ∧ (prg.fi 133).nt ≤ Tryz.f133.ntmps := ⟨Tryz.func133, by kernel_rfl, Nat.le_of_ble_eq_true (by kernel_rfl)⟩
theorem cok134 : Tryz.prog.funcs[134]? = some Tryz.f134 ∧ (Tryz.f134.name == "runtime.NumGoroutine") = false ∧ (prg.fi 134).nt ≤ Tryz.f134.ntmps := ⟨Tryz.func134, by kernel_rfl, Nat.le_of_ble_eq_true (by kernel_rfl)⟩
theorem cok136 : Tryz.prog.funcs[136]? = some Tryz.f136 ∧ (Tryz.f136.name == "runtime.NumGoroutine") = false ∧ (prg.fi 136).nt ≤ Tryz.f136.ntmps := ⟨Tryz.func136, by kernel_rfl, Nat.le_of_ble_eq_true (by kernel_rfl)⟩
theorem cok138 : Tryz.prog.funcs[138]? = some Tryz.f138 ∧ (Tryz.f138.name == "runtime.NumGoroutine") = false ∧ (prg.fi 138).nt ≤ Tryz.f138.ntmps := ⟨Tryz.func138, by kernel_rfl, Nat.le_of_ble_eq_true (by kernel_rfl)⟩
theorem cok139 : Tryz.prog.funcs[139]? = some Tryz.f139 ∧ (Tryz.f139.name == "runtime.NumGoroutine") = false ∧ (prg.fi 139).nt ≤ Tryz.f139.ntmps := ⟨Tryz.func139, by kernel_rfl, Nat.le_of_ble_eq_true (by kernel_rfl)⟩
theorem cok140 : Tryz.prog.funcs[140]? = some Tryz.f140 ∧ (Tryz.f140.name == "runtime.NumGoroutine") = false ∧ (prg.fi 140).nt ≤ Tryz.f140.ntmps := ⟨Tryz.func140, by kernel_rfl, Nat.le_of_ble_eq_true (by kernel_rfl)⟩
theorem cok141 : Tryz.prog.funcs[141]? = some Tryz.f141 ∧ (Tryz.f141.name == "runtime.NumGoroutine") = false ∧ (prg.fi 141).nt ≤ Tryz.f141.ntmps := ⟨Tryz.func141, by kernel_rfl, Nat.le_of_ble_eq_true (by kernel_rfl)⟩
theorem cok142 : Tryz.prog.funcs[142]? = some Tryz.f142 ∧ (Tryz.f142.name == "runtime.NumGoroutine") = false ∧ (prg.fi 142).nt ≤ Tryz.f142.ntmps := ⟨Tryz.func142, by kernel_rfl, Nat.le_of_ble_eq_true (by kernel_rfl)⟩
theorem cok143 : Tryz.prog.funcs[143]? = some Tryz.f143 ∧ (Tryz.f143.name == "runtime.NumGoroutine") = false ∧ (prg.fi 143).nt ≤ Tryz.f143.ntmps := ⟨Tryz.func143, by kernel_rfl, Nat.le_of_ble_eq_true (by kernel_rfl)⟩
theorem cok144 : Tryz.prog.funcs[144]? = some Tryz.f144 ∧ (Tryz.f144.name == "runtime.NumGoroutine") = false ∧ (prg.fi 144).nt ≤ Tryz.f144.ntmps := ⟨Tryz.func144, by kernel_rfl, Nat.le_of_ble_eq_true (by kernel_rfl)⟩
theorem cok145 : Tryz.prog.funcs[145]? = some Tryz.f145 ∧ (Tryz.f145.name == "runtime.NumGoroutine") = false ∧ (prg.fi 145).nt ≤ Tryz.f145.ntmps := ⟨Tryz.func145, by kernel_rfl, Nat.le_of_ble_eq_true (by kernel_rfl)⟩
theorem cok146 : Tryz.prog.funcs[146]? = some Tryz.f146 ∧ (Tryz.f146.name == "runtime.NumGoroutine") = false ∧ (prg.fi 146).nt ≤ Tryz.f146.ntmps := ⟨Tryz.func146, by kernel_rfl, Nat.le_of_ble_eq_true (by kernel_rfl)⟩
theorem cok147 : Tryz.prog.funcs[147]? = some Tryz.f147 ∧ (Tryz.f147.name == "runtime.NumGoroutine") = false ∧ (prg.fi 147).nt ≤ Tryz.f147.ntmps := ⟨Tryz.func147, by kernel_rfl, Nat.le_of_ble_eq_true (by kernel_rfl)⟩
theorem cok148 : Tryz.prog.funcs[148]? = some Tryz.f148 ∧ (Tryz.f148.name == "runtime.NumGoroutine") = false ∧ (prg.fi 148).nt ≤ Tryz.f148.ntmps := ⟨Tryz.func148, by kernel_rfl, Nat.le_of_ble_eq_true (by kernel_rfl)⟩
theorem cok150 : Tryz.prog.funcs[150]? = some Tryz.f150 ∧ (Tryz.f150.name == "runtime.NumGoroutine") = false ∧ (prg.fi 150).nt ≤ Tryz.f150.ntmps := ⟨Tryz.func150, by kernel_rfl, Nat.le_of_ble_eq_true (by kernel_rfl)⟩
theorem cok151 : Tryz.prog.funcs[151]? = some Tryz.f151 ∧ (Tryz.f151.name == "runtime.NumGoroutine") = false ∧ (prg.fi 151).nt ≤ Tryz.f151.ntmps := ⟨Tryz.func151, by kernel_rfl, Nat.le_of_ble_eq_true (by kernel_rfl)⟩
theorem cok152 : Tryz.prog.funcs[152]? = some Tryz.f152 ∧ (Tryz.f152.name == "runtime.NumGoroutine") = false ∧ (prg.fi 152).nt ≤ Tryz.f152.ntmps := ⟨Tryz.func152, by kernel_rfl, Nat.le_of_ble_eq_true (by kernel_rfl)⟩
theorem cok153 : Tryz.prog.funcs[153]? = some Tryz.f153 ∧ (Tryz.f153.name == "runtime.NumGoroutine") = false ∧ (prg.fi 153).nt ≤ Tryz.f153.ntmps := ⟨Tryz.func153, by kernel_rfl, Nat.le_of_ble_eq_true (by kernel_rfl)⟩
theorem cok154 : Tryz.prog.funcs[154]? = some Tryz.f154 ∧ (Tryz.f154.name == "runtime.NumGoroutine") = false ∧ (prg.fi 154).nt ≤ Tryz.f154.ntmps := ⟨Tryz.func154, by kernel_rfl, Nat.le_of_ble_eq_true (by kernel_rfl)⟩
theorem codesR : codesOk Tryz.prog prg.fi 0 codeL := ⟨cok3, ⟨cok4, ⟨cok5, ⟨cok6, ⟨cok7, ⟨cok8, ⟨cok9, ⟨cok10, ⟨cok11, ⟨cok12, ⟨cok13, ⟨cok14, ⟨cok15, ⟨cok16, ⟨cok17, ⟨cok18, ⟨cok19, ⟨cok20, ⟨cok21, ⟨cok22, ⟨cok23, ⟨cok24, ⟨cok25, ⟨cok26, ⟨cok27, ⟨cok28, ⟨cok29, ⟨cok30, ⟨cok31, ⟨cok32, ⟨cok33, ⟨cok34, ⟨cok35, ⟨cok36, ⟨cok37, ⟨cok38, ⟨cok39, ⟨cok40, ⟨cok41, ⟨cok42, ⟨cok43, ⟨cok44, ⟨cok45, ⟨cok46, ⟨cok47, ⟨cok48, ⟨cok49, ⟨cok50, ⟨cok51, ⟨cok52, ⟨cok53, ⟨cok54, ⟨cok55, ⟨cok56, ⟨cok57, ⟨cok58, ⟨cok59, ⟨cok60, ⟨cok61, ⟨cok62, ⟨cok63, ⟨cok64, ⟨cok65, ⟨cok66, ⟨cok67, ⟨cok68, ⟨cok69, ⟨cok70, ⟨cok71, ⟨cok72, ⟨cok73, ⟨cok74, ⟨cok75, ⟨cok76, ⟨cok77, ⟨cok78, ⟨cok79, ⟨cok80, ⟨cok81, ⟨cok82, ⟨cok83, ⟨cok84, ⟨cok85, ⟨cok86, ⟨cok87, ⟨cok88, ⟨cok89, ⟨cok90, ⟨cok91, ⟨cok92, ⟨cok93, ⟨cok94, ⟨cok95, ⟨cok96, ⟨cok97, ⟨cok98, ⟨cok99, ⟨cok100, ⟨cok101, ⟨cok102, ⟨cok103, ⟨cok104, ⟨cok105, ⟨cok106, ⟨cok107, ⟨cok108, ⟨cok110, ⟨cok111, ⟨cok112, ⟨cok113, ⟨cok114, ⟨cok115, ⟨cok116, ⟨cok117, ⟨cok118, ⟨cok119, ⟨cok120, ⟨cok121, ⟨cok122, ⟨cok123, ⟨cok124, ⟨cok125, ⟨cok126, ⟨cok127, ⟨cok128, ⟨cok129, ⟨cok130, ⟨cok131, ⟨cok132, ⟨cok133, ⟨cok134, ⟨cok136, ⟨cok138, ⟨cok139, ⟨cok140, ⟨cok141, ⟨cok142, ⟨cok143, ⟨cok144, ⟨cok145, ⟨cok146, ⟨cok147, ⟨cok148, ⟨cok150, ⟨cok151, ⟨cok152, ⟨cok153, ⟨cok154, trivial⟩⟩⟩⟩⟩⟩⟩⟩⟩⟩⟩⟩⟩⟩⟩⟩⟩⟩⟩⟩⟩⟩⟩⟩⟩⟩⟩⟩⟩⟩⟩⟩⟩⟩⟩⟩⟩⟩⟩⟩⟩⟩⟩⟩⟩⟩⟩⟩⟩⟩⟩⟩⟩⟩⟩⟩⟩⟩⟩⟩⟩⟩⟩⟩⟩⟩⟩⟩⟩⟩⟩⟩⟩⟩⟩⟩⟩⟩⟩⟩⟩⟩⟩⟩⟩⟩⟩⟩⟩⟩⟩⟩⟩⟩⟩⟩⟩⟩⟩⟩⟩⟩⟩⟩⟩⟩⟩⟩⟩⟩⟩⟩⟩⟩⟩⟩⟩⟩⟩⟩⟩⟩⟩⟩⟩⟩⟩⟩⟩⟩⟩⟩⟩⟩⟩⟩⟩⟩⟩⟩⟩⟩⟩⟩⟩⟩⟩⟩
theorem prgR : PrgOK Tryz.prog prg where
  tab := tabR
  code := fun f fn h => by
    have h' : codeL[f]? = some (some fn) := by
      have h2 : (codeL[f]?).getD none = some fn := h
      cases hx : codeL[f]? with
      | none => rw [hx] at h2; cases h2
      | some x => rw [hx] at h2; exact congrArg some h2
    have := codesOk_get codesR f fn h'
    simpa using this
  prim := fun f q h => by
    have h' : primF f = some q := h
    unfold primF at h'
    cases h'
  mix := by kernel_rfl
end Go.Proofs.YtebaiioejagfoaaGreatDoor
/-
  DERIVED: THE SHELF's CONTRACTS AT THIS DUMP, IN PLAIN WORDS (tools/lay-plain.mjs out of 'YtebaiioejagfoaaGreatDoorSh0.lean', which tools/lay-shelf.mjs wrote): THE SAME DECLARATIONS UNDER THE SAME NAMES: 'import', 'namespace', 'open', 'def', 'theorem' AND NOTHING ELSE: no command of the shelf's: FOR A HAND-IN. Each laying: the table of numbers ('.._ren') and one theorem, a field a fact of the dump's own or the kernel's comparison; each contract: ONE APPLICATION.
-/
namespace Go.Proofs
open Go.Shelf
def Tryz.lays169_ren : Go.Shelf.Ren := ⟨fun | 169 => 43 | n => n, fun | 70 => 79 | 9 => 9 | 0 => 0 | 72 => 81 | 37 => 22 | 127 => 126 | 3 => 3 | 5 => 5 | n => n, fun | n => n⟩
theorem Tryz.lays169 : Go.Proofs.Lays.n169 Tryz.prog Tryz.lays169_ren := {
  mixed := by kernel_rfl
  f169 := Tryz.func43.trans (congrArg some (by kernel_rfl))
  t0 := Tryz.underlying0
  a0 := Tryz.isAgg0
  z0 := Tryz.sizeOf0
  v0 := Tryz.zeroValue0
  t3 := Tryz.underlying3
  a3 := Tryz.isAgg3
  z3 := Tryz.sizeOf3
  v3 := Tryz.zeroValue3
  t9 := Tryz.underlying9
  a9 := Tryz.isAgg9
  z9 := Tryz.sizeOf9
  v9 := Tryz.zeroValue9
  t37 := Tryz.underlying22
  a37 := Tryz.isAgg22
  z37 := Tryz.sizeOf22
  v37 := Tryz.zeroValue22
  t70 := Tryz.underlying79
  a70 := Tryz.isAgg79
  z70 := Tryz.sizeOf79
  v70 := Tryz.zeroValue79
  t72 := Tryz.underlying81
  a72 := Tryz.isAgg81
  z72 := Tryz.sizeOf81
  v72 := Tryz.zeroValue81
  t127 := Tryz.underlying126
  a127 := Tryz.isAgg126
  z127 := Tryz.sizeOf126
  v127 := Tryz.zeroValue126 }
theorem Tryz.Builder_Extra_169 : Builder.Extra Tryz.prog Tryz.lays169_ren := {
  sizeBuilder := by kernel_rfl
  liesBuilder := by kernel_rfl
  t5 := Tryz.underlying5
  a5 := Tryz.isAgg5
  z5 := Tryz.sizeOf5
  v5 := Tryz.zeroValue5
  infoByte := by kernel_rfl
  cellsByte := by kernel_rfl
  sizeByte := by kernel_rfl
  neB5 := by decide }
open Go.RowKit in
theorem Tryz.Builder_String_k (B b : Nat) (l : List UInt8) (w : World) (h : Lib.IsBuilderF 81 5 B b (Lib.byteCells l) w) (h0 : l ≠ []) :
    Calls Tryz.prog 43 #[.pointer (some ⟨b, 0, none⟩)] w fun e w' => e = .returned (.string ⟨l.toArray⟩) ∧ (Lib.IsBuilderF 81 5 B b (Lib.byteCells l) w' ∧ Below B w w' ∧ Lib.OthersKept 5 (some b) w w') := Any.Builder_String_k Tryz.lays169 Tryz.Builder_Extra_169 B b l w h h0
open Go.RowKit in
theorem Tryz.Builder_String_empty_k (B b : Nat) (w : World) (h : Lib.IsBuilderF 81 5 B b [] w) (hBw : B ≤ w.heap.size) :
    Calls Tryz.prog 43 #[.pointer (some ⟨b, 0, none⟩)] w fun e w' => e = .returned (.string ⟨#[]⟩) ∧ (Lib.IsBuilderF 81 5 B b [] w' ∧ Below B w w' ∧ Lib.OthersKept 5 (some b) w w') := Any.Builder_String_empty_k Tryz.lays169 Tryz.Builder_Extra_169 B b w h hBw
open Go.RowKit in
theorem Tryz.Builder_String_any_k (B b : Nat) (l : List UInt8) (w : World) (h : Lib.IsBuilderF 81 5 B b (Lib.byteCells l) w) (hBw : B ≤ w.heap.size) :
    Calls Tryz.prog 43 #[.pointer (some ⟨b, 0, none⟩)] w fun e w' => e = .returned (.string ⟨l.toArray⟩) ∧ (Lib.IsBuilderF 81 5 B b (Lib.byteCells l) w' ∧ Below B w w' ∧ Lib.OthersKept 5 (some b) w w') := Any.Builder_String_any_k Tryz.lays169 Tryz.Builder_Extra_169 B b l w h hBw
def Tryz.lays172_ren : Go.Shelf.Ren := ⟨fun | 172 => 79 | 244 => 107 | 245 => 108 | 247 => 124 | 279 => 125 | 280 => 126 | 281 => 127 | 282 => 128 | 287 => 140 | 316 => 141 | 171 => 42 | 205 => 142 | 321 => 151 | 322 => 152 | 243 => 82 | 246 => 110 | 283 => 129 | 284 => 130 | 285 => 131 | 286 => 132 | 129 => 144 | 317 => 143 | 318 => 145 | 319 => 146 | 320 => 147 | 337 => 153 | 338 => 154 | n => n, fun | 9 => 9 | 3 => 3 | 75 => 83 | 76 => 84 | 4 => 4 | 5 => 5 | 167 => 162 | 37 => 22 | 0 => 0 | 85 => 163 | 2 => 2 | 168 => 165 | 53 => 169 | 175 => 178 | 46 => 177 | 210 => 182 | 127 => 126 | 145 => 195 | 143 => 193 | 21 => 21 | 171 => 168 | 173 => 172 | 212 => 185 | 51 => 186 | 20 => 20 | 213 => 187 | 232 => 201 | 233 => 202 | 80 => 92 | n => n, fun | 15 => 1 | 16 => 2 | 17 => 3 | 18 => 6 | 19 => 7 | n => n⟩
theorem Tryz.lays172 : Go.Proofs.Lays.n172 Tryz.prog Tryz.lays172_ren := {
  mixed := by kernel_rfl
  f129 := Tryz.func144.trans (congrArg some (by kernel_rfl))
  f171 := Tryz.func42.trans (congrArg some (by kernel_rfl))
  f172 := Tryz.func79.trans (congrArg some (by kernel_rfl))
  f205 := Tryz.func142.trans (congrArg some (by kernel_rfl))
  f243 := Tryz.func82.trans (congrArg some (by kernel_rfl))
  f244 := Tryz.func107.trans (congrArg some (by kernel_rfl))
  f245 := Tryz.func108.trans (congrArg some (by kernel_rfl))
  f246 := Tryz.func110.trans (congrArg some (by kernel_rfl))
  f247 := Tryz.func124.trans (congrArg some (by kernel_rfl))
  f279 := Tryz.func125.trans (congrArg some (by kernel_rfl))
  f280 := Tryz.func126.trans (congrArg some (by kernel_rfl))
  f281 := Tryz.func127.trans (congrArg some (by kernel_rfl))
  f282 := Tryz.func128.trans (congrArg some (by kernel_rfl))
  f283 := Tryz.func129.trans (congrArg some (by kernel_rfl))
  f284 := Tryz.func130.trans (congrArg some (by kernel_rfl))
  f285 := Tryz.func131.trans (congrArg some (by kernel_rfl))
  f286 := Tryz.func132.trans (congrArg some (by kernel_rfl))
  f287 := Tryz.func140.trans (congrArg some (by kernel_rfl))
  f316 := Tryz.func141.trans (congrArg some (by kernel_rfl))
  f317 := Tryz.func143.trans (congrArg some (by kernel_rfl))
  f318 := Tryz.func145.trans (congrArg some (by kernel_rfl))
  f319 := Tryz.func146.trans (congrArg some (by kernel_rfl))
  f320 := Tryz.func147.trans (congrArg some (by kernel_rfl))
  f321 := Tryz.func151.trans (congrArg some (by kernel_rfl))
  f322 := Tryz.func152.trans (congrArg some (by kernel_rfl))
  f337 := Tryz.func153.trans (congrArg some (by kernel_rfl))
  f338 := Tryz.func154.trans (congrArg some (by kernel_rfl))
  t0 := Tryz.underlying0
  a0 := Tryz.isAgg0
  z0 := Tryz.sizeOf0
  v0 := Tryz.zeroValue0
  t2 := Tryz.underlying2
  a2 := Tryz.isAgg2
  z2 := Tryz.sizeOf2
  v2 := Tryz.zeroValue2
  t3 := Tryz.underlying3
  a3 := Tryz.isAgg3
  z3 := Tryz.sizeOf3
  v3 := Tryz.zeroValue3
  t4 := Tryz.underlying4
  a4 := Tryz.isAgg4
  z4 := Tryz.sizeOf4
  v4 := Tryz.zeroValue4
  t5 := Tryz.underlying5
  a5 := Tryz.isAgg5
  z5 := Tryz.sizeOf5
  v5 := Tryz.zeroValue5
  t9 := Tryz.underlying9
  a9 := Tryz.isAgg9
  z9 := Tryz.sizeOf9
  v9 := Tryz.zeroValue9
  t20 := Tryz.underlying20
  a20 := Tryz.isAgg20
  z20 := Tryz.sizeOf20
  v20 := Tryz.zeroValue20
  t21 := Tryz.underlying21
  a21 := Tryz.isAgg21
  z21 := Tryz.sizeOf21
  v21 := Tryz.zeroValue21
  t37 := Tryz.underlying22
  a37 := Tryz.isAgg22
  z37 := Tryz.sizeOf22
  v37 := Tryz.zeroValue22
  t46 := Tryz.underlying177
  a46 := Tryz.isAgg177
  z46 := Tryz.sizeOf177
  v46 := Tryz.zeroValue177
  t51 := Tryz.underlying186
  a51 := Tryz.isAgg186
  z51 := Tryz.sizeOf186
  v51 := Tryz.zeroValue186
  t53 := Tryz.underlying169
  a53 := Tryz.isAgg169
  z53 := Tryz.sizeOf169
  v53 := Tryz.zeroValue169
  t75 := Tryz.underlying83
  a75 := Tryz.isAgg83
  z75 := Tryz.sizeOf83
  v75 := Tryz.zeroValue83
  t76 := Tryz.underlying84
  a76 := Tryz.isAgg84
  z76 := Tryz.sizeOf84
  v76 := Tryz.zeroValue84
  t85 := Tryz.underlying163
  a85 := Tryz.isAgg163
  z85 := Tryz.sizeOf163
  v85 := Tryz.zeroValue163
  t127 := Tryz.underlying126
  a127 := Tryz.isAgg126
  z127 := Tryz.sizeOf126
  v127 := Tryz.zeroValue126
  t143 := Tryz.underlying193
  a143 := Tryz.isAgg193
  z143 := Tryz.sizeOf193
  v143 := Tryz.zeroValue193
  t145 := Tryz.underlying195
  a145 := Tryz.isAgg195
  z145 := Tryz.sizeOf195
  v145 := Tryz.zeroValue195
  t167 := Tryz.underlying162
  a167 := Tryz.isAgg162
  z167 := Tryz.sizeOf162
  v167 := Tryz.zeroValue162
  t168 := Tryz.underlying165
  a168 := Tryz.isAgg165
  z168 := Tryz.sizeOf165
  v168 := Tryz.zeroValue165
  t171 := Tryz.underlying168
  a171 := Tryz.isAgg168
  z171 := Tryz.sizeOf168
  v171 := Tryz.zeroValue168
  t173 := Tryz.underlying172
  a173 := Tryz.isAgg172
  z173 := Tryz.sizeOf172
  v173 := Tryz.zeroValue172
  t175 := Tryz.underlying178
  a175 := Tryz.isAgg178
  z175 := Tryz.sizeOf178
  v175 := Tryz.zeroValue178
  t210 := Tryz.underlying182
  a210 := Tryz.isAgg182
  z210 := Tryz.sizeOf182
  v210 := Tryz.zeroValue182
  t212 := Tryz.underlying185
  a212 := Tryz.isAgg185
  z212 := Tryz.sizeOf185
  v212 := Tryz.zeroValue185
  t213 := Tryz.underlying187
  a213 := Tryz.isAgg187
  z213 := Tryz.sizeOf187
  t232 := Tryz.underlying201
  a232 := Tryz.isAgg201
  z232 := Tryz.sizeOf201
  v232 := Tryz.zeroValue201
  t233 := Tryz.underlying202
  a233 := Tryz.isAgg202
  z233 := Tryz.sizeOf202
  v233 := Tryz.zeroValue202
  g15 := by kernel_rfl
  g16 := by kernel_rfl
  g17 := by kernel_rfl
  g18 := by kernel_rfl
  g19 := by kernel_rfl }
open Go.RowKit in
theorem Tryz.strconv_Atoi (s : ByteArray) (n : Int) (hl : s.size ≤ 18) (h : Lib.atoi s.data.toList = some n) (w : World) :
    Calls Tryz.prog 79 #[.string s] w fun e w' => e = .returned (.tuple #[.int .i64 n, .nilIface]) ∧ ∃ t, w' = Lib.bytesWorld w 5 t := Any.strconv_Atoi Tryz.lays172 s n hl h w
def Tryz.lays219_ren : Go.Shelf.Ren := ⟨fun | 219 => 123 | 217 => 136 | 225 => 137 | 224 => 138 | 267 => 139 | 266 => 149 | 314 => 150 | n => n, fun | 9 => 9 | 3 => 3 | 4 => 4 | 5 => 5 | 46 => 177 | 146 => 189 | 51 => 186 | n => n, fun | 1 => 0 | n => n⟩
theorem Tryz.lays219 : Go.Proofs.Lays.n219 Tryz.prog Tryz.lays219_ren := {
  mixed := by kernel_rfl
  f217 := Tryz.func136.trans (congrArg some (by kernel_rfl))
  f219 := Tryz.func123.trans (congrArg some (by kernel_rfl))
  f224 := Tryz.func138.trans (congrArg some (by kernel_rfl))
  f225 := Tryz.func137.trans (congrArg some (by kernel_rfl))
  f266 := Tryz.func149.trans (congrArg some (by kernel_rfl))
  f267 := Tryz.func139.trans (congrArg some (by kernel_rfl))
  f314 := Tryz.func150.trans (congrArg some (by kernel_rfl))
  t3 := Tryz.underlying3
  a3 := Tryz.isAgg3
  z3 := Tryz.sizeOf3
  v3 := Tryz.zeroValue3
  t4 := Tryz.underlying4
  a4 := Tryz.isAgg4
  z4 := Tryz.sizeOf4
  v4 := Tryz.zeroValue4
  t5 := Tryz.underlying5
  a5 := Tryz.isAgg5
  z5 := Tryz.sizeOf5
  v5 := Tryz.zeroValue5
  t9 := Tryz.underlying9
  a9 := Tryz.isAgg9
  z9 := Tryz.sizeOf9
  v9 := Tryz.zeroValue9
  t46 := Tryz.underlying177
  a46 := Tryz.isAgg177
  z46 := Tryz.sizeOf177
  v46 := Tryz.zeroValue177
  t51 := Tryz.underlying186
  a51 := Tryz.isAgg186
  z51 := Tryz.sizeOf186
  v51 := Tryz.zeroValue186
  t146 := Tryz.underlying189
  a146 := Tryz.isAgg189
  z146 := Tryz.sizeOf189
  v146 := Tryz.zeroValue189
  g1 := by kernel_rfl }
open Go.RowKit Go.Lib in
theorem Tryz.stringslite_Index_one (s : ByteArray) (c : UInt8) (w : World) :
    Calls Tryz.prog 123 #[.string s, .string ⟨#[c]⟩] w fun e w' => e = .returned (.int .i64 (Lib.indexByte s.data.toList c)) ∧ w' = w := Any.stringslite_Index_one Tryz.lays219 s c w
def Tryz.lays138_ren : Go.Shelf.Ren := ⟨fun | 138 => 121 | 195 => 133 | 218 => 135 | 143 => 122 | 219 => 123 | 217 => 136 | 225 => 137 | 224 => 138 | 267 => 139 | 266 => 149 | 314 => 150 | n => n, fun | 9 => 9 | 3 => 3 | 4 => 4 | 5 => 5 | 0 => 0 | 46 => 177 | 146 => 189 | 51 => 186 | n => n, fun | 1 => 0 | n => n⟩
theorem Tryz.lays138 : Go.Proofs.Lays.n138 Tryz.prog Tryz.lays138_ren := {
  mixed := by kernel_rfl
  f138 := Tryz.func121.trans (congrArg some (by kernel_rfl))
  f143 := Tryz.func122.trans (congrArg some (by kernel_rfl))
  f195 := Tryz.func133.trans (congrArg some (by kernel_rfl))
  f217 := Tryz.func136.trans (congrArg some (by kernel_rfl))
  f218 := Tryz.func135.trans (congrArg some (by kernel_rfl))
  f219 := Tryz.func123.trans (congrArg some (by kernel_rfl))
  f224 := Tryz.func138.trans (congrArg some (by kernel_rfl))
  f225 := Tryz.func137.trans (congrArg some (by kernel_rfl))
  f266 := Tryz.func149.trans (congrArg some (by kernel_rfl))
  f267 := Tryz.func139.trans (congrArg some (by kernel_rfl))
  f314 := Tryz.func150.trans (congrArg some (by kernel_rfl))
  t0 := Tryz.underlying0
  a0 := Tryz.isAgg0
  z0 := Tryz.sizeOf0
  v0 := Tryz.zeroValue0
  t3 := Tryz.underlying3
  a3 := Tryz.isAgg3
  z3 := Tryz.sizeOf3
  v3 := Tryz.zeroValue3
  t4 := Tryz.underlying4
  a4 := Tryz.isAgg4
  z4 := Tryz.sizeOf4
  v4 := Tryz.zeroValue4
  t5 := Tryz.underlying5
  a5 := Tryz.isAgg5
  z5 := Tryz.sizeOf5
  v5 := Tryz.zeroValue5
  t9 := Tryz.underlying9
  a9 := Tryz.isAgg9
  z9 := Tryz.sizeOf9
  v9 := Tryz.zeroValue9
  t46 := Tryz.underlying177
  a46 := Tryz.isAgg177
  z46 := Tryz.sizeOf177
  v46 := Tryz.zeroValue177
  t51 := Tryz.underlying186
  a51 := Tryz.isAgg186
  z51 := Tryz.sizeOf186
  v51 := Tryz.zeroValue186
  t146 := Tryz.underlying189
  a146 := Tryz.isAgg189
  z146 := Tryz.sizeOf189
  v146 := Tryz.zeroValue189
  g1 := by kernel_rfl }
open Go.RowKit Go.Lib in
theorem Tryz.strings_Count_one (s : ByteArray) (c : UInt8) (w : World) :
    Calls Tryz.prog 121 #[.string s, .string ⟨#[c]⟩] w fun e w' => e = .returned (.int .i64 (Lib.countByte s.data.toList c)) ∧ w' = w := Any.strings_Count_one Tryz.lays138 s c w
end Go.Proofs

/- strings.Builder: what its writers leave, at this dump. -/
set_option linter.unusedVariables false
set_option linter.unusedSimpArgs false
namespace Go.Proofs.YtebaiioejagfoaaGreatDoor
open Go Go.Shelf Go.RowKit Go.Lib Go.Proofs
set_option maxHeartbeats 4000000
set_option maxRecDepth 100000
theorem bd_size : ∃ j, Tryz.prog.info? 81 = some j ∧ j.size = 2 := Option.map_eq_some_iff.1 (show Option.map (fun x => x.size) (Tryz.prog.info? 81) = some 2 by kernel_rfl)
theorem bd_byte : ∃ i, Tryz.prog.info? 5 = some i ∧ i.zero = some (.int .u8 0) ∧ i.size = 1 ∧ i.bytes = 1 := by
  obtain ⟨i, hi, e⟩ := Option.map_eq_some_iff.1 (show Option.map (fun i => (i.zero, i.size, i.bytes)) (Tryz.prog.info? 5) = some (some (.int .u8 0), 1, 1) by kernel_rfl)
  simp only [Prod.mk.injEq] at e
  exact ⟨i, hi, e.1, e.2.1, e.2.2⟩
theorem cc_used (b : Nat) (w : World) (h0 : w.cell? ⟨b, 0, none⟩ = some (.pointer (some ⟨b, 0, none⟩))) :
    Calls Tryz.prog 81 #[.pointer (some ⟨b, 0, none⟩)] w fun e w' => e = .returned (.tuple #[]) ∧ w' = w := by
  obtain ⟨j, hj, -⟩ := bd_size
  have mixed : Tryz.prog.follows .mixedOrders = true := by kernel_rfl
  go_enter Tryz.func81, Tryz.ntmps81
  go_wp2
  rw [Lib.run_neq_ptr_same w _ Tryz.underlying79 hj]
  go_wp2
  go_end0
  exact ⟨rfl, rfl⟩
theorem cc_fresh (b : Nat) (w : World) (h0 : w.cell? ⟨b, 0, none⟩ = some (.pointer none)) (hsh : w.shape? b = some (81, 2)) (hfz : w.frozen? ⟨b, 0, none⟩ = false) :
    Calls Tryz.prog 81 #[.pointer (some ⟨b, 0, none⟩)] w fun e w' => e = .returned (.tuple #[]) ∧ w' = w.setCell ⟨b, 0, none⟩ (.pointer (some ⟨b, 0, none⟩)) := by
  obtain ⟨j, hj, hjs⟩ := bd_size
  have mixed : Tryz.prog.follows .mixedOrders = true := by kernel_rfl
  go_enter Tryz.func81, Tryz.ntmps81
  go_wp2
  rw [Lib.run_to_unsafe w ⟨b, 0, none⟩ Tryz.underlying79 Tryz.underlying148 hj (by rw [hjs]; decide) hsh (Nat.zero_lt_succ 1)]
  simp only [Result.andThen]
  rw [Oper.upon_value]
  go_wp2
  rw [run_callFunc_extern Tryz.func109 (by kernel_rfl) (by kernel_rfl) (by kernel_rfl) (e := Extern.AbiNoEscape.same) (by kernel_rfl)]
  rw [Lib.run_noEscape]
  simp only [Result.andThen]
  rw [Oper.upon_value]
  go_wp2
  rw [Lib.run_from_unsafe w ⟨b, 0, none⟩ Tryz.underlying148 Tryz.underlying79 hj hsh (by kernel_rfl)]
  simp only [Result.andThen]
  rw [Oper.upon_value]
  go_wp2
  go_end0
  exact ⟨rfl, rfl⟩
theorem cc_k (B b : Nat) (bs : List Value) (w : World) (h : Lib.IsBuilderF 81 5 B b bs w) :
    Calls Tryz.prog 81 #[.pointer (some ⟨b, 0, none⟩)] w fun e w' => e = .returned (.tuple #[]) ∧ (Lib.BuilderAtF 81 5 B b (.pointer (some ⟨b, 0, none⟩)) bs w' ∧ Below B w w') := by
  rcases h with h | h
  · refine (cc_fresh b w h.cell0 h.shape h.frozen0).mono ?_
    rintro e w' ⟨rfl, rfl⟩
    exact ⟨rfl, h.used _, (Below.refl B w).setCell (p := ⟨b, 0, none⟩) h.1 _⟩
  · refine (cc_used b w h.cell0).mono ?_
    rintro e w' ⟨rfl, rfl⟩
    exact ⟨rfl, h, Below.refl B _⟩
theorem ws_k (B b : Nat) (bs : List Value) (s : ByteArray) (w : World) (h : Lib.IsBuilderF 81 5 B b bs w) (hlen : bs.length + s.size ≤ 140737488355328) (hBw : B ≤ w.heap.size) :
    Calls Tryz.prog 40 #[.pointer (some ⟨b, 0, none⟩), .string s] w fun e w' => e = .returned (.tuple #[.int .i64 s.size, .nilIface]) ∧ (Lib.IsBuilderF 81 5 B b (bs ++ Lib.strCells s) w' ∧ Below B w w') := by
  obtain ⟨i0, hi, hz0, hz1, hz2⟩ := bd_byte
  have mixed : Tryz.prog.follows .mixedOrders = true := by kernel_rfl
  go_enter Tryz.func40, Tryz.ntmps40
  go_wp2_with (go_at_call 81; refine (cc_k B b bs _ h).mono ?_)
  rintro e w1 ⟨rfl, h1, hb1⟩
  obtain ⟨hB, v, hbk, hown, hne⟩ := h1
  have c0 : w1.cell? ⟨b, 0, none⟩ = some (.pointer (some ⟨b, 0, none⟩)) := by rw [Lib.cell_of_heap hbk]; rfl
  have c1 : w1.cell? ⟨b, 1, none⟩ = some v := by rw [Lib.cell_of_heap hbk]; rfl
  go_wp2_with (at_builtin; refine Lib.wpList_append_own_stringF _ rfl _ _ 22 9 rfl B 5 i0 Tryz.underlying22 Tryz.underlying9 hi hz0 hz1 hz2 _ _ _ rfl hown s rfl ?c3 ?c4 ?c5 ?_)
  case c3 => unfold maxLen; omega
  case c4 => omega
  case c5 => have := hb1.size; omega
  intro v' w2 hown' hgrow _
  have hlt : b < w1.heap.size := by
    rcases Nat.lt_or_ge b w1.heap.size with h' | h'
    · exact h'
    · simp [Array.getElem?_eq_none h'] at hbk
  have hb2 : w2.heap[b]? = some (.cells #[.pointer (some ⟨b, 0, none⟩), v] 81 (0, 0)) := by
    rw [hgrow.block b hlt (fun e => hne e.symm)]
    exact hbk
  have d0 : w2.cell? ⟨b, 0, none⟩ = some (.pointer (some ⟨b, 0, none⟩)) := by rw [Lib.cell_of_heap hb2]; rfl
  have d1 : w2.cell? ⟨b, 1, none⟩ = some v := by rw [Lib.cell_of_heap hb2]; rfl
  have f1 : w2.frozen? ⟨b, 1, none⟩ = false := Lib.frozen_of_heap hb2 1
  obtain ⟨ao, n', cap, rfl⟩ : ∃ ao n' cap, v' = .slice ao n' cap := by
    rcases hown'.2 with ⟨hv, _⟩ | ⟨g, cap, cur, fz, hv, _⟩
    · exact ⟨_, _, _, hv⟩
    · exact ⟨_, _, _, hv⟩
  go_wp2
  go_ret2
  refine ⟨rfl, .inr ?_, ?_⟩
  · exact Lib.BuilderAtF.put (T := 81) (e := 5) hB hb2 (bs' := bs ++ Lib.strCells s) (by simpa [Lib.strCells_length] using hown') (by decide)
  · exact (hb1.grown hgrow (by have := hb1.size; omega) (fun k hk => (hown.lt k hk).1)).setCell (p := ⟨b, 1, none⟩) hB _
end Go.Proofs.YtebaiioejagfoaaGreatDoor

/- What the functions of the kit give: the range, the reader of a code. -/
namespace Go.Proofs.YtebaiioejagfoaaGreatDoor
open Go
set_option linter.unusedVariables false
set_option linter.unusedSimpArgs false
theorem s_l6In (n lo hi : Int) : Ex (fun m => callF prg m 73 [iI n, iI lo, iI hi] []) (bB (decide (lo ≤ n ∧ n ≤ hi))) [] := by
  refine ev_is.1 (U73 (nl := 0) rfl ?_)
  unfold B73
  repeat' (first | ((with_reducible refine eG ?_); first | (with_reducible first | refine ev_gtt ?_ | refine ev_gff ?_ | refine ev_gtf ?_ | refine ev_gft ?_ | refine ev_gu ?_) | refine ev_bd rfl ?_ | refine ev_bd0 rfl ?_ | ((with_reducible refine ev_gB ?_ ?_) <;> intro h)) | ((with_reducible refine eB ?_); first | ((with_reducible first | refine ev_leq ?_ ?_ | refine ev_geq ?_ ?_) <;> intro h <;> try (exfalso; omega)) | refine ev_bd rfl ?_ | refine ev_bd0 rfl ?_) | ((with_reducible refine eD ?_); first | refine ev_bd rfl ?_ | refine ev_bd0 rfl ?_ | ((with_reducible refine ev_pickB ?_ ?_) <;> intro h)) | refine ev_ret rfl ?_)
  all_goals exact ⟨by simp <;> omega, rfl⟩
theorem s_in (n lo hi : Int) : Ex (fun m => callF prg m 46 [iI n, iI lo, iI hi] []) (bB (decide (lo ≤ n ∧ n ≤ hi))) [] := by
  refine ev_is.1 (U46 (nl := 0) rfl ?_)
  unfold B46
  repeat' (first | ((with_reducible refine eG ?_); first | (with_reducible first | refine ev_gtt ?_ | refine ev_gff ?_ | refine ev_gtf ?_ | refine ev_gft ?_ | refine ev_gu ?_) | refine ev_bd rfl ?_ | refine ev_bd0 rfl ?_ | ((with_reducible refine ev_gB ?_ ?_) <;> intro h)) | ((with_reducible refine eB ?_); first | ((with_reducible first | refine ev_leq ?_ ?_ | refine ev_geq ?_ ?_) <;> intro h <;> try (exfalso; omega)) | refine ev_bd rfl ?_ | refine ev_bd0 rfl ?_) | ((with_reducible refine eD ?_); first | refine ev_bd rfl ?_ | refine ev_bd0 rfl ?_ | ((with_reducible refine ev_pickB ?_ ?_) <;> intro h)) | refine ev_ret rfl ?_)
  all_goals exact ⟨by simp <;> omega, rfl⟩
theorem s_isName (n : Int) : Ex (fun m => callF prg m 44 [iI n] []) (bB (decide (1 ≤ n ∧ n ≤ 4))) [] := by
  refine ev_is.1 (U44 (nl := 0) rfl ?_)
  unfold B44
  repeat' (first | ((with_reducible refine eC ?_); first | ((refine ev_callD (s_in ..) rfl rfl ?_ rfl rfl ?_ ?_); (focus first | exact .inl rfl | exact .inr rfl | (refine .inr ?_; simp [flagC, ownF, hasSl3, hasSl1, SO.hasSl, List.all_map, flatSV, SV.cells, Function.comp_def]; done)); (all_goals (intro h)); (all_goals (try (exfalso; first | omega | exact h rfl | exact h ⟨rfl, rfl, rfl⟩))))) | ((with_reducible refine eD ?_); first | refine ev_bd rfl ?_ | refine ev_bd0 rfl ?_) | refine ev_ret rfl ?_)
  all_goals exact ⟨by simp <;> omega, rfl⟩
theorem s_isVer (n : Int) : Ex (fun m => callF prg m 45 [iI n] []) (bB (decide (1 ≤ n ∧ n ≤ 5))) [] := by
  refine ev_is.1 (U45 (nl := 0) rfl ?_)
  unfold B45
  repeat' (first | ((with_reducible refine eC ?_); first | ((refine ev_callD (s_in ..) rfl rfl ?_ rfl rfl ?_ ?_); (focus first | exact .inl rfl | exact .inr rfl | (refine .inr ?_; simp [flagC, ownF, hasSl3, hasSl1, SO.hasSl, List.all_map, flatSV, SV.cells, Function.comp_def]; done)); (all_goals (intro h)); (all_goals (try (exfalso; first | omega | exact h rfl | exact h ⟨rfl, rfl, rfl⟩))))) | ((with_reducible refine eD ?_); first | refine ev_bd rfl ?_ | refine ev_bd0 rfl ?_) | refine ev_ret rfl ?_)
  all_goals exact ⟨by simp <;> omega, rfl⟩
def QYes : SV → List SO → Prop := fun x _ => x = .v (.bool true)
structure RdOK (b : List Int) : Prop where
  by_ : ∀ i, 0 ≤ nth b i ∧ nth b i < 256
  len : b.length ≤ 2000
theorem s_pick {b : List Int} {p : Int} (hb : RdOK b) (hp : 0 ≤ p ∧ p < 1000000000) (n : Int) (hn : n < 1000000000) :
    ∃ x, ((1 ≤ n → 0 ≤ x ∧ x < n) ∧ (n < 1 → x = 0)) ∧ Ex (fun m => callF prg m 28 [.ptr 0 0, iI n] [rd b p]) (iI x) [rd b (p + 1)] := by
  have key : Ev (fun m => callF prg m 28 [.ptr 0 0, iI n] [rd b p]) (fun x os => ∃ v, x = iI v ∧ os = [rd b (p + 1)] ∧ (1 ≤ n → 0 ≤ v ∧ v < n) ∧ (n < 1 → v = 0)) := by
    obtain ⟨hby, hlen⟩ := hb
    refine U28 (nl := 1) rfl ?_
    unfold B28
    repeat' (first | ((with_reducible refine eG ?_); first | (with_reducible first | refine ev_gtt ?_ | refine ev_gff ?_ | refine ev_gtf ?_ | refine ev_gft ?_ | refine ev_gu ?_) | refine ev_bd rfl ?_ | refine ev_bd0 rfl ?_ | ((with_reducible refine ev_gB ?_ ?_) <;> intro h)) | ((with_reducible refine eB ?_); first | ((with_reducible first | refine ev_lss ?_ ?_ | refine ev_eql ?_ ?_) <;> intro h <;> try (exfalso; omega)) | ((with_reducible first | refine ev_add ?_ ?_ | refine ev_sub ?_ ?_ | refine ev_mul ?_ ?_); · omega) | ((with_reducible refine ev_quo ?_ ?_ ?_); (· omega); (· omega); intro x hx hx0 hx1) | ((with_reducible refine ev_rem ?_ ?_); (· omega); intro x hx hx0 hx1) | (((with_reducible refine ev_xor ?_ ?_ ?_); (· omega); (· omega); intro x hx0 hx1)) | refine ev_bd rfl ?_ | refine ev_bd0 rfl ?_) | ((with_reducible refine eL ?_); first | ((with_reducible refine ev_lenm ?_ ?_); · rfl) | refine ev_lenom rfl rfl ?_ | refine ev_lenoc rfl rfl rfl ?_ | refine ev_lenc rfl rfl ?_ | refine ev_leno rfl rfl ?_ | refine ev_slen rfl ?_ | refine ev_bd rfl ?_ | refine ev_bd0 rfl ?_) | ((with_reducible refine eI ?_); first | ((with_reducible refine ev_idx ?_ ?_ ?_); (· rfl); · omega) | (refine ev_idxo rfl rfl ?_ ?_; (· first | omega | (simp only [List.length_cons, List.length_nil, List.length_map, List.length_append]; omega))) | refine ev_bd rfl ?_ | refine ev_bd0 rfl ?_) | ((with_reducible refine eV ?_); first | (((with_reducible refine ev_conv8 ?_ ?_ ?_ ?_); (· rfl); (· rfl); (· exact hby _); intro hy0 hy1)) | ((with_reducible refine ev_conv64 ?_ ?_ ?_ ?_); (· rfl); (· rfl); · omega) | refine ev_bd rfl ?_ | refine ev_bd0 rfl ?_) | ((with_reducible refine eK ?_); first | (with_reducible first | refine ev_ct ?_ | refine ev_cf ?_) | ((with_reducible refine ev_cond ?_ ?_) <;> intro h)) | ((with_reducible refine eO ?_); first | refine ev_bd rfl ?_ | (refine ev_bdB rfl ?_ ?_ <;> intro h <;> try (exfalso; simp_all; done)) | refine ev_bd0 rfl ?_) | ((with_reducible refine eD ?_); first | refine ev_bd rfl ?_ | refine ev_bd0 rfl ?_ | ((with_reducible refine ev_pickB ?_ ?_) <;> intro h)) | refine ev_ret rfl ?_)
    all_goals first | exact ⟨_, rfl, rfl, by omega, by omega⟩ | trace_state
  obtain ⟨x, os, ⟨v, rfl, rfl, h1, h2⟩, he⟩ := key
  exact ⟨v, ⟨h1, h2⟩, he⟩
end Go.Proofs.YtebaiioejagfoaaGreatDoor

/- Roots and indexes: what is ok, and what is the same. -/
namespace Go.Proofs.YtebaiioejagfoaaGreatDoor
open Go
set_option linter.unusedVariables false
set_option linter.unusedSimpArgs false
set_option maxHeartbeats 4000000
structure TRoot where
  num : Int
  keys : List Int
  need : Int
  deriving Inhabited, DecidableEq
structure TMeta where
  name : Int
  ver : Int
  sum : Int
  deriving Inhabited, DecidableEq
structure TIndex where
  num : Int
  til : Int
  metas : List TMeta
  deriving Inhabited, DecidableEq
structure TTrust where
  root : TRoot
  has : Bool
  index : TIndex
  deriving Inhabited, DecidableEq
theorem TMeta.eq3 {m n : TMeta} (h : m.name = n.name ∧ m.ver = n.ver ∧ m.sum = n.sum) : m = n := by
  cases m; cases n; simp_all
abbrev eMeta (m : TMeta) : SV := .ag [iI m.name, iI m.ver, iI m.sum]
def keyAt (l : List Int) (i : Nat) : Prop := 1 ≤ nth l i ∧ nth l i ≤ 6 ∧ (0 < i → nth l (i - 1) < nth l i)
instance (l : List Int) (i : Nat) : Decidable (keyAt l i) := by unfold keyAt; exact inferInstance
def keysOk (l : List Int) : Bool := decide (∀ i, i < l.length → keyAt l i)
def rootOk (num : Int) (keys : List Int) (need : Int) : Bool := decide (1 ≤ num ∧ num ≤ 9) && keysOk keys && decide (1 ≤ need ∧ need ≤ keys.length)
theorem s_luMetas_L (a b : List TMeta) (hl : a.length = b.length) (h47 : a.length ≤ 140737488355328) : ∀ i, i ≤ a.length → (∀ j, j < i → nth a j = nth b j) → ∀ (k : Int) (c : Nat), k = i →
    Ev (fun n => L36_4 (callF prg n) (n + 1) 0 (n + 1 - c) (.sl 3 (a.map eMeta)) (.sl 3 (b.map eMeta)) (iI k) []) (Is (bB (decide (a = b))) []) := by
  refine up_ind ?_
  intro i hi ih hp k c hk
  subst hk
  (refine UL36_4 ?_; unfold LB36_4)
  repeat' (first | ((with_reducible refine eB ?_); first | ((with_reducible first | refine ev_lss ?_ ?_ | refine ev_neq ?_ ?_) <;> intro h <;> try (exfalso; omega)) | ((with_reducible refine ev_add ?_ ?_); · omega) | ((with_reducible first | refine ev_eql3 ?_ ?_ ?_ | refine ev_neq3 ?_ ?_ ?_ | refine ev_eql2 ?_ ?_ ?_ | refine ev_neq2 ?_ ?_ ?_); (· rfl); all_goals intro h) | refine ev_bd rfl ?_ | refine ev_bd0 rfl ?_) | ((with_reducible refine eL ?_); first | ((with_reducible refine ev_lenm ?_ ?_); · rfl) | refine ev_lenom rfl rfl ?_ | refine ev_lenoc rfl rfl rfl ?_ | refine ev_lenc rfl rfl ?_ | refine ev_leno rfl rfl ?_ | refine ev_slen rfl ?_ | refine ev_bd rfl ?_ | refine ev_bd0 rfl ?_) | ((with_reducible refine eI ?_); first | ((with_reducible refine ev_idx ?_ ?_ ?_); (· rfl); · omega) | (refine ev_idxo rfl rfl ?_ ?_; (· first | omega | (simp only [List.length_cons, List.length_nil, List.length_map, List.length_append]; omega))) | refine ev_bd rfl ?_ | refine ev_bd0 rfl ?_) | ((with_reducible refine eK ?_); first | (with_reducible first | refine ev_ct ?_ | refine ev_cf ?_) | ((with_reducible refine ev_cond ?_ ?_) <;> intro h)) | ((with_reducible refine eO ?_); first | refine ev_bd rfl ?_ | (refine ev_bdB rfl ?_ ?_ <;> intro h <;> try (exfalso; simp_all; done)) | refine ev_bd0 rfl ?_) | ((with_reducible refine eD ?_); first | refine ev_bd rfl ?_ | refine ev_bd0 rfl ?_) | ((with_reducible refine ih ?_ (all_step hp ?_) _ _ ?_) <;> (first | omega | assumption | ((exact TMeta.eq3 (by simpa using h))) | (simp only [*, List.map_append, List.length_append, List.length_cons, List.length_nil, List.map_cons, List.map_nil]; done) | (simp_all; done) | (simp_all; omega))) | refine ev_ret rfl ?_)
  · refine ⟨congrArg bB (Eq.symm (decide_eq_false fun e => ?_)), rfl⟩
    subst e; simp_all
  · exact ⟨congrArg bB (Eq.symm (decide_eq_true (eq_of_nth hl fun j hj => hp j (by omega)))), rfl⟩
theorem s_luMetas (a b : List TMeta) (h47 : a.length ≤ 140737488355328) : Ex (fun m => callF prg m 36 [.sl 3 (a.map eMeta), .sl 3 (b.map eMeta)] []) (bB (decide (a = b))) [] := by
  refine ev_is.1 ?_
  (refine U36 (nl := 0) rfl ?_; unfold B36)
  repeat' (first | ((with_reducible refine eB ?_); first | ((with_reducible refine ev_neq ?_ ?_) <;> intro h <;> try (exfalso; omega)) | refine ev_bd rfl ?_ | refine ev_bd0 rfl ?_) | ((with_reducible refine eL ?_); first | ((with_reducible refine ev_lenm ?_ ?_); · rfl) | refine ev_lenom rfl rfl ?_ | refine ev_lenoc rfl rfl rfl ?_ | refine ev_lenc rfl rfl ?_ | refine ev_leno rfl rfl ?_ | refine ev_slen rfl ?_ | refine ev_bd rfl ?_ | refine ev_bd0 rfl ?_) | ((with_reducible refine eK ?_); first | (with_reducible first | refine ev_ct ?_ | refine ev_cf ?_) | ((with_reducible refine ev_cond ?_ ?_) <;> intro h)) | ((with_reducible refine eD ?_); first | refine ev_bd rfl ?_ | refine ev_bd0 rfl ?_) | ( exact s_luMetas_L a b (by omega) h47 0 (by omega) (fun j hj => by omega) 0 0 rfl) | refine ev_ret rfl ?_)
  refine ⟨congrArg bB (Eq.symm (decide_eq_false fun e => ?_)), rfl⟩
  subst e; simp_all
theorem s_luIndex (num til : Int) (ms : List TMeta) (num' til' : Int) (ms' : List TMeta) (h47 : ms.length ≤ 140737488355328) :
    Ex (fun m => callF prg m 9 [.ag [iI num, iI til, .sl 3 (ms.map eMeta)], .ag [iI num', iI til', .sl 3 (ms'.map eMeta)]] []) (bB (decide (num = num' ∧ til = til' ∧ ms = ms'))) [] := by
  refine ev_is.1 ?_
  (refine U9 (nl := 0) rfl ?_; unfold B9)
  repeat' (first | ((with_reducible refine eG ?_); first | (with_reducible first | refine ev_gtt ?_ | refine ev_gff ?_ | refine ev_gtf ?_ | refine ev_gft ?_ | refine ev_gu ?_) | refine ev_bd rfl ?_ | refine ev_bd0 rfl ?_ | ((with_reducible refine ev_gB ?_ ?_) <;> intro h)) | ((with_reducible refine eB ?_); first | ((with_reducible refine ev_eql ?_ ?_) <;> intro h <;> try (exfalso; omega)) | refine ev_bd rfl ?_ | refine ev_bd0 rfl ?_) | ((with_reducible refine eC ?_); first | ((refine ev_callD (s_luMetas _ _ h47) rfl rfl ?_ rfl rfl ?_ ?_); (focus first | exact .inl rfl | exact .inr rfl | (refine .inr ?_; simp [flagC, ownF, hasSl3, hasSl1, SO.hasSl, List.all_map, flatSV, SV.cells, Function.comp_def]; done)); (all_goals (intro h)); (all_goals (try (exfalso; first | omega | exact h rfl | exact h ⟨rfl, rfl, rfl⟩))))) | ((with_reducible refine eO ?_); first | refine ev_bd rfl ?_ | (refine ev_bdB rfl ?_ ?_ <;> intro h <;> try (exfalso; simp_all; done)) | refine ev_bd0 rfl ?_) | ((with_reducible refine eD ?_); first | refine ev_bd rfl ?_ | refine ev_bd0 rfl ?_ | ((with_reducible refine ev_pickB ?_ ?_) <;> intro h)) | refine ev_ret rfl ?_)
  all_goals (refine ⟨congrArg (fun b => SV.v (Value.bool b)) ?_, rfl⟩; first | (simp_all []; done) | (simp_all []; omega) | (simp [] at *; omega) | (simp []; omega) | grind [] | trace_state)
def mless (a b : TMeta) : Prop := a.name < b.name ∨ a.name = b.name ∧ a.ver < b.ver
instance (a b : TMeta) : Decidable (mless a b) := by unfold mless; exact inferInstance
def metaAt (l : List TMeta) (i : Nat) : Prop := (1 ≤ (nth l i).name ∧ (nth l i).name ≤ 4) ∧ (1 ≤ (nth l i).ver ∧ (nth l i).ver ≤ 5) ∧ (0 ≤ (nth l i).sum ∧ (nth l i).sum ≤ 9972) ∧ (0 < i → mless (nth l (i - 1)) (nth l i))
instance (l : List TMeta) (i : Nat) : Decidable (metaAt l i) := by unfold metaAt; exact inferInstance
def metasOk (l : List TMeta) : Bool := decide (∀ i, i < l.length → metaAt l i)
def indexOk (num til : Int) (ms : List TMeta) : Bool := decide (1 ≤ num ∧ num ≤ 30) && decide (0 ≤ til ∧ til ≤ 60) && decide (ms.length ≤ 8) && metasOk ms
theorem indexOk_iff {num til : Int} {ms : List TMeta} : indexOk num til ms = true ↔ (1 ≤ num ∧ num ≤ 30) ∧ (0 ≤ til ∧ til ≤ 60) ∧ ms.length ≤ 8 ∧ metasOk ms = true := by
  simp [indexOk, and_assoc]
theorem s_l3Less (n v m w : Int) : Ex (fun k => callF prg k 70 [iI n, iI v, iI m, iI w] []) (bB (decide (n < m ∨ n = m ∧ v < w))) [] := by
  refine ev_is.1 ?_
  (refine U70 (nl := 0) rfl ?_; unfold B70)
  repeat' (first | ((with_reducible refine eG ?_); first | (with_reducible first | refine ev_gtt ?_ | refine ev_gff ?_ | refine ev_gtf ?_ | refine ev_gft ?_ | refine ev_gu ?_) | refine ev_bd rfl ?_ | refine ev_bd0 rfl ?_ | ((with_reducible refine ev_gB ?_ ?_) <;> intro h)) | ((with_reducible refine eB ?_); first | ((with_reducible first | refine ev_lss ?_ ?_ | refine ev_eql ?_ ?_) <;> intro h <;> try (exfalso; omega)) | refine ev_bd rfl ?_ | refine ev_bd0 rfl ?_) | ((with_reducible refine eD ?_); first | refine ev_bd rfl ?_ | refine ev_bd0 rfl ?_ | ((with_reducible refine ev_pickB ?_ ?_) <;> intro h)) | refine ev_ret rfl ?_)
  all_goals (refine ⟨congrArg (fun b => SV.v (Value.bool b)) ?_, rfl⟩; first | (simp_all []; done) | (simp_all []; omega) | (simp [] at *; omega) | (simp []; omega) | grind [] | trace_state)
theorem s_IndexOkS_L (num til : Int) (ms : List TMeta) (h47 : ms.length ≤ 140737488355328) : ∀ i, i ≤ ms.length → (∀ j, j < i → metaAt ms j) → ∀ (k : Int) (c : Nat), k = i →
    Ev (fun n => G33_4 (callF prg n) (n + 1) 0 (n + 1 - c) [.ptr 0 0, iI k] [.box [iI num, iI til, .sl 3 (ms.map eMeta)]]) (Is (bB (metasOk ms)) []) := by
  refine up_ind ?_
  intro i hi ih hp k c hk
  subst hk
  (refine UG33_4 _ ?_; unfold GB33_4)
  repeat' (first | ((with_reducible refine eG ?_); first | (with_reducible first | refine ev_gtt ?_ | refine ev_gff ?_ | refine ev_gtf ?_ | refine ev_gft ?_ | refine ev_gu ?_) | refine ev_bd rfl ?_ | refine ev_bd0 rfl ?_ | ((with_reducible refine ev_gB ?_ ?_) <;> intro h)) | ((with_reducible refine eB ?_); first | ((with_reducible first | refine ev_lss ?_ ?_ | refine ev_gtr ?_ ?_) <;> intro h <;> try (exfalso; omega)) | ((with_reducible first | refine ev_add ?_ ?_ | refine ev_sub ?_ ?_); · omega) | refine ev_bd rfl ?_ | refine ev_bd0 rfl ?_) | ((with_reducible refine eL ?_); first | ((with_reducible refine ev_lenm ?_ ?_); · rfl) | refine ev_lenom rfl rfl ?_ | refine ev_lenoc rfl rfl rfl ?_ | refine ev_lenc rfl rfl ?_ | refine ev_leno rfl rfl ?_ | refine ev_slen rfl ?_ | refine ev_bd rfl ?_ | refine ev_bd0 rfl ?_) | ((with_reducible refine eI ?_); first | ((with_reducible refine ev_idx ?_ ?_ ?_); (· rfl); · omega) | (refine ev_idxo rfl rfl ?_ ?_; (· first | omega | (simp only [List.length_cons, List.length_nil, List.length_map, List.length_append]; omega))) | refine ev_bd rfl ?_ | refine ev_bd0 rfl ?_) | ((with_reducible refine eC ?_); first | ((refine ev_callD (s_l6In ..) rfl rfl ?_ rfl rfl ?_ ?_); (focus first | exact .inl rfl | exact .inr rfl | (refine .inr ?_; simp [flagC, ownF, hasSl3, hasSl1, SO.hasSl, List.all_map, flatSV, SV.cells, Function.comp_def]; done)); (all_goals (intro h)); (all_goals (try (exfalso; first | omega | exact h rfl | exact h ⟨rfl, rfl, rfl⟩)))) | ((refine ev_callD (s_l3Less ..) rfl rfl ?_ rfl rfl ?_ ?_); (focus first | exact .inl rfl | exact .inr rfl | (refine .inr ?_; simp [flagC, ownF, hasSl3, hasSl1, SO.hasSl, List.all_map, flatSV, SV.cells, Function.comp_def]; done)); (all_goals (intro h)); (all_goals (try (exfalso; first | omega | exact h rfl | exact h ⟨rfl, rfl, rfl⟩))))) | ((with_reducible refine eK ?_); first | (with_reducible first | refine ev_ct ?_ | refine ev_cf ?_) | ((with_reducible refine ev_cond ?_ ?_) <;> intro h)) | ((with_reducible refine eO ?_); first | refine ev_bd rfl ?_ | (refine ev_bdB rfl ?_ ?_ <;> intro h <;> try (exfalso; simp_all; done)) | refine ev_bd0 rfl ?_) | ((with_reducible refine eD ?_); first | refine ev_bd rfl ?_ | refine ev_bd0 rfl ?_ | ((with_reducible refine ev_pickB ?_ ?_) <;> intro h)) | ((with_reducible refine eH ?_); first | refine ev_gcB rfl ?_) | (with_reducible first | refine UL33_4 ?_ | refine VL33_4 ?_) | ((with_reducible refine ih ?_ (all_step hp ?_) _ _ ?_) <;> (first | omega | assumption | ((unfold metaAt mless; (try simp only [Int.toNat_natCast, tn_sub1, tn_add1] at *); omega)) | (simp only [*, List.map_append, List.length_append, List.length_cons, List.length_nil, List.map_cons, List.map_nil]; done) | (simp_all; done) | (simp_all; omega))) | refine ev_ret rfl ?_)
  all_goals first | exact ⟨congrArg bB (Eq.symm (all_true hp (by omega))), rfl⟩ | exact ⟨congrArg bB (Eq.symm (all_false (i := i) (by omega) (by unfold metaAt mless; (try simp only [Int.toNat_natCast, tn_sub1, tn_add1] at *); omega))), rfl⟩ | trace_state
theorem s_IndexOkS (num til : Int) (ms : List TMeta) (h47 : ms.length ≤ 140737488355328) : Ex (fun m => callF prg m 33 [.ag [iI num, iI til, .sl 3 (ms.map eMeta)]] []) (bB (indexOk num til ms)) [] := by
  refine ev_is.1 ?_
  (refine U33 (nl := 0) rfl ?_; unfold B33)
  repeat' (first | ((with_reducible refine eG ?_); first | (with_reducible first | refine ev_gtt ?_ | refine ev_gff ?_ | refine ev_gtf ?_ | refine ev_gft ?_ | refine ev_gu ?_) | refine ev_bd rfl ?_ | refine ev_bd0 rfl ?_ | ((with_reducible refine ev_gB ?_ ?_) <;> intro h)) | ((with_reducible refine eB ?_); first | ((with_reducible refine ev_gtr ?_ ?_) <;> intro h <;> try (exfalso; omega)) | refine ev_bd rfl ?_ | refine ev_bd0 rfl ?_) | ((with_reducible refine eL ?_); first | ((with_reducible refine ev_lenm ?_ ?_); · rfl) | refine ev_lenom rfl rfl ?_ | refine ev_lenoc rfl rfl rfl ?_ | refine ev_lenc rfl rfl ?_ | refine ev_leno rfl rfl ?_ | refine ev_slen rfl ?_ | refine ev_bd rfl ?_ | refine ev_bd0 rfl ?_) | ((with_reducible refine eC ?_); first | ((refine ev_callD (s_l6In ..) rfl rfl ?_ rfl rfl ?_ ?_); (focus first | exact .inl rfl | exact .inr rfl | (refine .inr ?_; simp [flagC, ownF, hasSl3, hasSl1, SO.hasSl, List.all_map, flatSV, SV.cells, Function.comp_def]; done)); (all_goals (intro h)); (all_goals (try (exfalso; first | omega | exact h rfl | exact h ⟨rfl, rfl, rfl⟩))))) | ((with_reducible refine eK ?_); first | (with_reducible first | refine ev_ct ?_ | refine ev_cf ?_) | ((with_reducible refine ev_cond ?_ ?_) <;> intro h)) | ((with_reducible refine eO ?_); first | refine ev_bd rfl ?_ | (refine ev_bdB rfl ?_ ?_ <;> intro h <;> try (exfalso; simp_all; done)) | refine ev_bd0 rfl ?_) | ((with_reducible refine eD ?_); first | refine ev_bd rfl ?_ | refine ev_bd0 rfl ?_ | ((with_reducible refine ev_pickB ?_ ?_) <;> intro h)) | ((with_reducible refine eH ?_); first | refine ev_gcB rfl ?_) | (with_reducible first | refine UL33_4 ?_ | refine VL33_4 ?_) | ( ((have h8 : ms.length ≤ 8 := by omega); (rw [show indexOk num til ms = metasOk ms by simp [indexOk, *]]); exact s_IndexOkS_L num til ms h47 0 (by omega) (fun j hj => by omega) 0 1 rfl)) | refine ev_ret rfl ?_)
  all_goals (refine ⟨congrArg (fun b => SV.v (Value.bool b)) ?_, rfl⟩; first | (simp_all [indexOk]; done) | (simp_all [indexOk]; omega) | (simp [indexOk] at *; omega) | (simp [indexOk]; omega) | grind [indexOk] | trace_state)
theorem s_IndexOkI_L (num til : Int) (ms : List TMeta) (h47 : ms.length ≤ 140737488355328) : ∀ i, i ≤ ms.length → (∀ j, j < i → metaAt ms j) → ∀ (k : Int) (c : Nat), k = i →
    Ev (fun n => G13_2 (callF prg n) (n + 1) 0 (n + 1 - c) [.ptr 0 0, .sl 3 (ms.map eMeta), iI ms.length, iI k] [.box [iI num, iI til, .sl 3 (ms.map eMeta)]]) (Is (bB (indexOk num til ms)) []) := by
  refine up_ind ?_
  intro i hi ih hp k c hk
  subst hk
  (refine UG13_2 _ ?_; unfold GB13_2)
  repeat' (first | ((with_reducible refine eG ?_); first | (with_reducible first | refine ev_gtt ?_ | refine ev_gff ?_ | refine ev_gtf ?_ | refine ev_gft ?_ | refine ev_gu ?_) | refine ev_bd rfl ?_ | refine ev_bd0 rfl ?_ | ((with_reducible refine ev_gB ?_ ?_) <;> intro h)) | ((with_reducible refine eB ?_); first | ((with_reducible first | refine ev_lss ?_ ?_ | refine ev_leq ?_ ?_ | refine ev_gtr ?_ ?_ | refine ev_eql ?_ ?_) <;> intro h <;> try (exfalso; omega)) | ((with_reducible first | refine ev_add ?_ ?_ | refine ev_sub ?_ ?_); · omega) | refine ev_bd rfl ?_ | refine ev_bd0 rfl ?_) | ((with_reducible refine eL ?_); first | ((with_reducible refine ev_lenm ?_ ?_); · rfl) | refine ev_lenom rfl rfl ?_ | refine ev_lenoc rfl rfl rfl ?_ | refine ev_lenc rfl rfl ?_ | refine ev_leno rfl rfl ?_ | refine ev_slen rfl ?_ | refine ev_bd rfl ?_ | refine ev_bd0 rfl ?_) | ((with_reducible refine eI ?_); first | ((with_reducible refine ev_idx ?_ ?_ ?_); (· rfl); · omega) | (refine ev_idxo rfl rfl ?_ ?_; (· first | omega | (simp only [List.length_cons, List.length_nil, List.length_map, List.length_append]; omega))) | refine ev_bd rfl ?_ | refine ev_bd0 rfl ?_) | ((with_reducible refine eC ?_); first | ((refine ev_callD (s_isName ..) rfl rfl ?_ rfl rfl ?_ ?_); (focus first | exact .inl rfl | exact .inr rfl | (refine .inr ?_; simp [flagC, ownF, hasSl3, hasSl1, SO.hasSl, List.all_map, flatSV, SV.cells, Function.comp_def]; done)); (all_goals (intro h)); (all_goals (try (exfalso; first | omega | exact h rfl | exact h ⟨rfl, rfl, rfl⟩)))) | ((refine ev_callD (s_isVer ..) rfl rfl ?_ rfl rfl ?_ ?_); (focus first | exact .inl rfl | exact .inr rfl | (refine .inr ?_; simp [flagC, ownF, hasSl3, hasSl1, SO.hasSl, List.all_map, flatSV, SV.cells, Function.comp_def]; done)); (all_goals (intro h)); (all_goals (try (exfalso; first | omega | exact h rfl | exact h ⟨rfl, rfl, rfl⟩)))) | ((refine ev_callD (s_in ..) rfl rfl ?_ rfl rfl ?_ ?_); (focus first | exact .inl rfl | exact .inr rfl | (refine .inr ?_; simp [flagC, ownF, hasSl3, hasSl1, SO.hasSl, List.all_map, flatSV, SV.cells, Function.comp_def]; done)); (all_goals (intro h)); (all_goals (try (exfalso; first | omega | exact h rfl | exact h ⟨rfl, rfl, rfl⟩))))) | ((with_reducible refine eK ?_); first | (with_reducible first | refine ev_ct ?_ | refine ev_cf ?_) | ((with_reducible refine ev_cond ?_ ?_) <;> intro h)) | ((with_reducible refine eO ?_); first | refine ev_bd rfl ?_ | (refine ev_bdB rfl ?_ ?_ <;> intro h <;> try (exfalso; simp_all; done)) | refine ev_bd0 rfl ?_) | ((with_reducible refine eD ?_); first | refine ev_bd rfl ?_ | refine ev_bd0 rfl ?_ | ((with_reducible refine ev_pickB ?_ ?_) <;> intro h)) | ((with_reducible refine eH ?_); first | refine ev_gcB rfl ?_) | (with_reducible first | refine UL13_2 ?_ | refine VL13_2 ?_) | ((with_reducible refine ih ?_ (all_step hp ?_) _ _ ?_) <;> (first | omega | assumption | ((unfold metaAt mless; (try simp only [Int.toNat_natCast, tn_sub1, tn_add1] at *); omega)) | (simp only [*, List.map_append, List.length_append, List.length_cons, List.length_nil, List.map_cons, List.map_nil]; done) | (simp_all; done) | (simp_all; omega))) | refine ev_ret rfl ?_)
  all_goals first
    | (have hm : metasOk ms = false := all_false (i := i) (by omega) (by unfold metaAt mless; (try simp only [Int.toNat_natCast, tn_sub1, tn_add1] at *); omega)
       exact ⟨congrArg bB (by simp [indexOk, hm]), rfl⟩)
    | (have hm : metasOk ms = true := all_true hp (by omega)
       exact ⟨congrArg bB (by simp [indexOk, hm, *] <;> omega), rfl⟩)
    | trace_state
theorem s_IndexOkI (num til : Int) (ms : List TMeta) (h47 : ms.length ≤ 140737488355328) : Ex (fun m => callF prg m 13 [.ag [iI num, iI til, .sl 3 (ms.map eMeta)]] []) (bB (indexOk num til ms)) [] := by
  refine ev_is.1 ?_
  (refine U13 (nl := 0) rfl ?_; unfold B13)
  repeat' (first | ((with_reducible refine eL ?_); first | ((with_reducible refine ev_lenm ?_ ?_); · rfl) | refine ev_lenom rfl rfl ?_ | refine ev_lenoc rfl rfl rfl ?_ | refine ev_lenc rfl rfl ?_ | refine ev_leno rfl rfl ?_ | refine ev_slen rfl ?_ | refine ev_bd rfl ?_ | refine ev_bd0 rfl ?_) | ((with_reducible refine eO ?_); first | refine ev_bd rfl ?_ | (refine ev_bdB rfl ?_ ?_ <;> intro h <;> try (exfalso; simp_all; done)) | refine ev_bd0 rfl ?_) | ((with_reducible refine eD ?_); first | refine ev_bd rfl ?_ | refine ev_bd0 rfl ?_) | ((with_reducible refine eH ?_); first | refine ev_gcB rfl ?_) | (with_reducible first | refine UL13_2 ?_ | refine VL13_2 ?_) | ( exact s_IndexOkI_L num til ms h47 0 (by omega) (fun j hj => by omega) 0 1 rfl) | refine ev_ret rfl ?_)
def trustOk (t : TTrust) : Bool := rootOk t.root.num t.root.keys t.root.need && (if t.has = true then indexOk t.index.num t.index.til t.index.metas else decide (t.index.num = 0 ∧ t.index.til = 0 ∧ t.index.metas = []))
abbrev aTrust (t : TTrust) : SV := .ag [iI t.root.num, .sl 1 (t.root.keys.map iI), iI t.root.need, bB t.has, iI t.index.num, iI t.index.til, .sl 3 (t.index.metas.map eMeta)]
abbrev rTrust (t : TTrust) : SV := .ag [iI t.root.num, .osl 0, iI t.root.need, bB t.has, iI t.index.num, iI t.index.til, .osl 1]
abbrev oTrust (t : TTrust) : List SO := [.arr false 1 (t.root.keys.map iI), .arr false 3 (t.index.metas.map eMeta)]
structure TLen (t : TTrust) : Prop where
  k : t.root.keys.length ≤ 2000000
  m : t.index.metas.length ≤ 2000000
end Go.Proofs.YtebaiioejagfoaaGreatDoor
