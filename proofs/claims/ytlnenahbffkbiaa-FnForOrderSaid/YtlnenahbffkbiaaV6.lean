/- The evaluator S and what it says of functions: Sb, Ta, V1, V2, Tf, V3, V6. -/
import Derived.Test.YtlnenahbffkbiaaSb1
import Derived.Test.YtlnenahbffkbiaaProg
import Derived.KernelRfl
import Derived.Test.YtlnenahbffkbiaaTb
import Derived.Test.YtlnenahbffkbiaaTc
/- The evaluator S: the functions of this seat, read chunk by chunk (2). -/
namespace Go.Proofs.Ytlnenahbffkbiaa
open Go
set_option linter.unusedVariables false
set_option maxRecDepth 100000
theorem UJ42_4 {nl : Nat} {Q : SV → List SO → Prop} {m3 : Nat → Nat} {x0 x3 x5 x6 : SV} {os : List SO} (h : Ev (fun n => JB42_4 (callF prg n) (n + 1) nl (m3 n) x0 x3 x5 x6 os) Q) : Ev (fun n => J42_4 (callF prg n) (n + 1) nl (m3 n) x0 x3 x5 x6 os) Q := ev_eq (fun n => J42_4_s _ _ _ _ _ _ _ _ _) h
theorem L42_9_s (K : Nat → List SV → List SO → Out) (N nl : Nat) (m9 : Nat) (x0 x3 x5 x7 : SV) (os : List SO) : L42_9 K N nl (m9 + 1) x0 x3 x5 x7 os = gcB nl [x0, x3, x5, x7] os fun xs os => G42_9 K N nl m9 xs os := by kernel_rfl
theorem UL42_9 {nl c : Nat} {Q : SV → List SO → Prop} {x0 x3 x5 x7 : SV} {os : List SO} (h : Ev (fun n => gcB nl [x0, x3, x5, x7] os fun xs os => G42_9 (callF prg n) (n + 1) nl (n + 1 - (c + 1)) xs os) Q) : Ev (fun n => L42_9 (callF prg n) (n + 1) nl (n + 1 - c) x0 x3 x5 x7 os) Q := ev_loop (L := fun n m => L42_9 (callF prg n) (n + 1) nl m x0 x3 x5 x7 os) (fun n m => L42_9_s _ _ _ _ _ _ _ _ _) h
theorem VL42_9 {nl : Nat} {Q : SV → List SO → Prop} {x0 x3 x5 x7 : SV} {os : List SO} (h : Ev (fun n => gcB nl [x0, x3, x5, x7] os fun xs os => G42_9 (callF prg n) (n + 1) nl (n + 1 - 1) xs os) Q) : Ev (fun n => L42_9 (callF prg n) (n + 1) nl (n + 1) x0 x3 x5 x7 os) Q := UL42_9 (c := 0) h
theorem G42_9_s (K : Nat → List SV → List SO → Out) (N nl : Nat) (m9 : Nat) (x0 x3 x5 x7 : SV) (os : List SO) : G42_9 K N nl m9 [x0, x3, x5, x7] os = GB42_9 K N nl m9 x0 x3 x5 x7 os := by kernel_rfl
theorem UG42_9 {nl : Nat} {Q : SV → List SO → Prop} (m9 : Nat → Nat) {x0 x3 x5 x7 : SV} {os : List SO} (h : Ev (fun n => GB42_9 (callF prg n) (n + 1) nl (m9 n) x0 x3 x5 x7 os) Q) : Ev (fun n => G42_9 (callF prg n) (n + 1) nl (m9 n) [x0, x3, x5, x7] os) Q := ev_eq (fun n => G42_9_s _ _ _ _ _ _ _ _ _) h
theorem J42_10_s (K : Nat → List SV → List SO → Out) (N nl : Nat) (m9 : Nat) (x0 x3 x5 x7 : SV) (os : List SO) : J42_10 K N nl m9 x0 x3 x5 x7 os = JB42_10 K N nl m9 x0 x3 x5 x7 os := by kernel_rfl
theorem UJ42_10 {nl : Nat} {Q : SV → List SO → Prop} {m9 : Nat → Nat} {x0 x3 x5 x7 : SV} {os : List SO} (h : Ev (fun n => JB42_10 (callF prg n) (n + 1) nl (m9 n) x0 x3 x5 x7 os) Q) : Ev (fun n => J42_10 (callF prg n) (n + 1) nl (m9 n) x0 x3 x5 x7 os) Q := ev_eq (fun n => J42_10_s _ _ _ _ _ _ _ _ _) h
theorem X42_s (K : Nat → List SV → List SO → Out) (N nl : Nat) (x0 x1 : SV) (os : List SO) : X42 K N nl x0 x1 os = B42 K N nl x0 x1 os := by kernel_rfl
theorem E42 (n : Nat) (x0 x1 : SV) (os : List SO) : callF prg (n + 1) 42 [x0, x1] os = X42 (callF prg n) (n + 1) os.length x0 x1 os := by kernel_rfl
theorem U42 {Q : SV → List SO → Prop} {x0 x1 : SV} {os : List SO} {nl : Nat} (hnl : os.length = nl) (h : Ev (fun n => B42 (callF prg n) (n + 1) nl x0 x1 os) Q) : Ev (fun n => callF prg n 42 [x0, x1] os) Q := by subst hnl; exact ev_fun (fun n => (E42 n _ _ _).trans (X42_s _ _ _ _ _ _)) h
theorem L43_2_s (K : Nat → List SV → List SO → Out) (N nl : Nat) (m2 : Nat) (x0 x3 : SV) (os : List SO) : L43_2 K N nl (m2 + 1) x0 x3 os = LB43_2 K N nl m2 x0 x3 os := by kernel_rfl
theorem UL43_2 {nl c : Nat} {Q : SV → List SO → Prop} {x0 x3 : SV} {os : List SO} (h : Ev (fun n => LB43_2 (callF prg n) (n + 1) nl (n + 1 - (c + 1)) x0 x3 os) Q) : Ev (fun n => L43_2 (callF prg n) (n + 1) nl (n + 1 - c) x0 x3 os) Q := ev_loop (L := fun n m => L43_2 (callF prg n) (n + 1) nl m x0 x3 os) (fun n m => L43_2_s _ _ _ _ _ _ _) h
theorem X43_s (K : Nat → List SV → List SO → Out) (N nl : Nat) (x0 : SV) (os : List SO) : X43 K N nl x0 os = B43 K N nl x0 os := by kernel_rfl
theorem E43 (n : Nat) (x0 : SV) (os : List SO) : callF prg (n + 1) 43 [x0] os = X43 (callF prg n) (n + 1) os.length x0 os := by kernel_rfl
theorem U43 {Q : SV → List SO → Prop} {x0 : SV} {os : List SO} {nl : Nat} (hnl : os.length = nl) (h : Ev (fun n => B43 (callF prg n) (n + 1) nl x0 os) Q) : Ev (fun n => callF prg n 43 [x0] os) Q := by subst hnl; exact ev_fun (fun n => (E43 n _ _).trans (X43_s _ _ _ _ _)) h
theorem X44_s (K : Nat → List SV → List SO → Out) (N nl : Nat) (x0 x1 : SV) (os : List SO) : X44 K N nl x0 x1 os = B44 K N nl x0 x1 os := by kernel_rfl
theorem E44 (n : Nat) (x0 x1 : SV) (os : List SO) : callF prg (n + 1) 44 [x0, x1] os = X44 (callF prg n) (n + 1) os.length x0 x1 os := by kernel_rfl
theorem U44 {Q : SV → List SO → Prop} {x0 x1 : SV} {os : List SO} {nl : Nat} (hnl : os.length = nl) (h : Ev (fun n => B44 (callF prg n) (n + 1) nl x0 x1 os) Q) : Ev (fun n => callF prg n 44 [x0, x1] os) Q := by subst hnl; exact ev_fun (fun n => (E44 n _ _ _).trans (X44_s _ _ _ _ _ _)) h
theorem X45_s (K : Nat → List SV → List SO → Out) (N nl : Nat) (x0 x1 x2 : SV) (os : List SO) : X45 K N nl x0 x1 x2 os = B45 K N nl x0 x1 x2 os := by kernel_rfl
theorem E45 (n : Nat) (x0 x1 x2 : SV) (os : List SO) : callF prg (n + 1) 45 [x0, x1, x2] os = X45 (callF prg n) (n + 1) os.length x0 x1 x2 os := by kernel_rfl
theorem U45 {Q : SV → List SO → Prop} {x0 x1 x2 : SV} {os : List SO} {nl : Nat} (hnl : os.length = nl) (h : Ev (fun n => B45 (callF prg n) (n + 1) nl x0 x1 x2 os) Q) : Ev (fun n => callF prg n 45 [x0, x1, x2] os) Q := by subst hnl; exact ev_fun (fun n => (E45 n _ _ _ _).trans (X45_s _ _ _ _ _ _ _)) h
theorem L46_4_s (K : Nat → List SV → List SO → Out) (N nl : Nat) (m4 : Nat) (x1 x30 x31 x32 : SV) (os : List SO) : L46_4 K N nl (m4 + 1) x1 x30 x31 x32 os = gcB nl [x1, x30, x31, x32] os fun xs os => G46_4 K N nl m4 xs os := by kernel_rfl
theorem UL46_4 {nl c : Nat} {Q : SV → List SO → Prop} {x1 x30 x31 x32 : SV} {os : List SO} (h : Ev (fun n => gcB nl [x1, x30, x31, x32] os fun xs os => G46_4 (callF prg n) (n + 1) nl (n + 1 - (c + 1)) xs os) Q) : Ev (fun n => L46_4 (callF prg n) (n + 1) nl (n + 1 - c) x1 x30 x31 x32 os) Q := ev_loop (L := fun n m => L46_4 (callF prg n) (n + 1) nl m x1 x30 x31 x32 os) (fun n m => L46_4_s _ _ _ _ _ _ _ _ _) h
theorem VL46_4 {nl : Nat} {Q : SV → List SO → Prop} {x1 x30 x31 x32 : SV} {os : List SO} (h : Ev (fun n => gcB nl [x1, x30, x31, x32] os fun xs os => G46_4 (callF prg n) (n + 1) nl (n + 1 - 1) xs os) Q) : Ev (fun n => L46_4 (callF prg n) (n + 1) nl (n + 1) x1 x30 x31 x32 os) Q := UL46_4 (c := 0) h
theorem G46_4_s (K : Nat → List SV → List SO → Out) (N nl : Nat) (m4 : Nat) (x1 x30 x31 x32 : SV) (os : List SO) : G46_4 K N nl m4 [x1, x30, x31, x32] os = GB46_4 K N nl m4 x1 x30 x31 x32 os := by kernel_rfl
theorem UG46_4 {nl : Nat} {Q : SV → List SO → Prop} (m4 : Nat → Nat) {x1 x30 x31 x32 : SV} {os : List SO} (h : Ev (fun n => GB46_4 (callF prg n) (n + 1) nl (m4 n) x1 x30 x31 x32 os) Q) : Ev (fun n => G46_4 (callF prg n) (n + 1) nl (m4 n) [x1, x30, x31, x32] os) Q := ev_eq (fun n => G46_4_s _ _ _ _ _ _ _ _ _) h
theorem L46_10_s (K : Nat → List SV → List SO → Out) (N nl : Nat) (m10 : Nat) (x1 x65 x66 x67 : SV) (os : List SO) : L46_10 K N nl (m10 + 1) x1 x65 x66 x67 os = gcB nl [x1, x65, x66, x67] os fun xs os => G46_10 K N nl m10 xs os := by kernel_rfl
theorem UL46_10 {nl c : Nat} {Q : SV → List SO → Prop} {x1 x65 x66 x67 : SV} {os : List SO} (h : Ev (fun n => gcB nl [x1, x65, x66, x67] os fun xs os => G46_10 (callF prg n) (n + 1) nl (n + 1 - (c + 1)) xs os) Q) : Ev (fun n => L46_10 (callF prg n) (n + 1) nl (n + 1 - c) x1 x65 x66 x67 os) Q := ev_loop (L := fun n m => L46_10 (callF prg n) (n + 1) nl m x1 x65 x66 x67 os) (fun n m => L46_10_s _ _ _ _ _ _ _ _ _) h
theorem VL46_10 {nl : Nat} {Q : SV → List SO → Prop} {x1 x65 x66 x67 : SV} {os : List SO} (h : Ev (fun n => gcB nl [x1, x65, x66, x67] os fun xs os => G46_10 (callF prg n) (n + 1) nl (n + 1 - 1) xs os) Q) : Ev (fun n => L46_10 (callF prg n) (n + 1) nl (n + 1) x1 x65 x66 x67 os) Q := UL46_10 (c := 0) h
theorem G46_10_s (K : Nat → List SV → List SO → Out) (N nl : Nat) (m10 : Nat) (x1 x65 x66 x67 : SV) (os : List SO) : G46_10 K N nl m10 [x1, x65, x66, x67] os = GB46_10 K N nl m10 x1 x65 x66 x67 os := by kernel_rfl
theorem UG46_10 {nl : Nat} {Q : SV → List SO → Prop} (m10 : Nat → Nat) {x1 x65 x66 x67 : SV} {os : List SO} (h : Ev (fun n => GB46_10 (callF prg n) (n + 1) nl (m10 n) x1 x65 x66 x67 os) Q) : Ev (fun n => G46_10 (callF prg n) (n + 1) nl (m10 n) [x1, x65, x66, x67] os) Q := ev_eq (fun n => G46_10_s _ _ _ _ _ _ _ _ _) h
theorem X46_s (K : Nat → List SV → List SO → Out) (N nl : Nat) (x0 : SV) (os : List SO) : X46 K N nl x0 os = B46 K N nl x0 os := by kernel_rfl
theorem E46 (n : Nat) (x0 : SV) (os : List SO) : callF prg (n + 1) 46 [x0] os = X46 (callF prg n) (n + 1) os.length x0 os := by kernel_rfl
theorem U46 {Q : SV → List SO → Prop} {x0 : SV} {os : List SO} {nl : Nat} (hnl : os.length = nl) (h : Ev (fun n => B46 (callF prg n) (n + 1) nl x0 os) Q) : Ev (fun n => callF prg n 46 [x0] os) Q := by subst hnl; exact ev_fun (fun n => (E46 n _ _).trans (X46_s _ _ _ _ _)) h
theorem X47_s (K : Nat → List SV → List SO → Out) (N nl : Nat) (x0 x1 : SV) (os : List SO) : X47 K N nl x0 x1 os = B47 K N nl x0 x1 os := by kernel_rfl
theorem E47 (n : Nat) (x0 x1 : SV) (os : List SO) : callF prg (n + 1) 47 [x0, x1] os = X47 (callF prg n) (n + 1) os.length x0 x1 os := by kernel_rfl
theorem U47 {Q : SV → List SO → Prop} {x0 x1 : SV} {os : List SO} {nl : Nat} (hnl : os.length = nl) (h : Ev (fun n => B47 (callF prg n) (n + 1) nl x0 x1 os) Q) : Ev (fun n => callF prg n 47 [x0, x1] os) Q := by subst hnl; exact ev_fun (fun n => (E47 n _ _ _).trans (X47_s _ _ _ _ _ _)) h
theorem X48_s (K : Nat → List SV → List SO → Out) (N nl : Nat) (x0 x1 x2 : SV) (os : List SO) : X48 K N nl x0 x1 x2 os = B48 K N nl x0 x1 x2 os := by kernel_rfl
theorem E48 (n : Nat) (x0 x1 x2 : SV) (os : List SO) : callF prg (n + 1) 48 [x0, x1, x2] os = X48 (callF prg n) (n + 1) os.length x0 x1 x2 os := by kernel_rfl
theorem U48 {Q : SV → List SO → Prop} {x0 x1 x2 : SV} {os : List SO} {nl : Nat} (hnl : os.length = nl) (h : Ev (fun n => B48 (callF prg n) (n + 1) nl x0 x1 x2 os) Q) : Ev (fun n => callF prg n 48 [x0, x1, x2] os) Q := by subst hnl; exact ev_fun (fun n => (E48 n _ _ _ _).trans (X48_s _ _ _ _ _ _ _)) h
theorem L49_2_s (K : Nat → List SV → List SO → Out) (N nl : Nat) (m2 : Nat) (x0 x1 x7 x8 : SV) (os : List SO) : L49_2 K N nl (m2 + 1) x0 x1 x7 x8 os = LB49_2 K N nl m2 x0 x1 x7 x8 os := by kernel_rfl
theorem UL49_2 {nl c : Nat} {Q : SV → List SO → Prop} {x0 x1 x7 x8 : SV} {os : List SO} (h : Ev (fun n => LB49_2 (callF prg n) (n + 1) nl (n + 1 - (c + 1)) x0 x1 x7 x8 os) Q) : Ev (fun n => L49_2 (callF prg n) (n + 1) nl (n + 1 - c) x0 x1 x7 x8 os) Q := ev_loop (L := fun n m => L49_2 (callF prg n) (n + 1) nl m x0 x1 x7 x8 os) (fun n m => L49_2_s _ _ _ _ _ _ _ _ _) h
theorem X49_s (K : Nat → List SV → List SO → Out) (N nl : Nat) (x0 x1 : SV) (os : List SO) : X49 K N nl x0 x1 os = B49 K N nl x0 x1 os := by kernel_rfl
theorem E49 (n : Nat) (x0 x1 : SV) (os : List SO) : callF prg (n + 1) 49 [x0, x1] os = X49 (callF prg n) (n + 1) os.length x0 x1 os := by kernel_rfl
theorem U49 {Q : SV → List SO → Prop} {x0 x1 : SV} {os : List SO} {nl : Nat} (hnl : os.length = nl) (h : Ev (fun n => B49 (callF prg n) (n + 1) nl x0 x1 os) Q) : Ev (fun n => callF prg n 49 [x0, x1] os) Q := by subst hnl; exact ev_fun (fun n => (E49 n _ _ _).trans (X49_s _ _ _ _ _ _)) h
theorem L50_3_s (K : Nat → List SV → List SO → Out) (N nl : Nat) (m3 : Nat) (x0 x2 x4 x8 x9 x10 : SV) (os : List SO) : L50_3 K N nl (m3 + 1) x0 x2 x4 x8 x9 x10 os = LB50_3 K N nl m3 x0 x2 x4 x8 x9 x10 os := by kernel_rfl
theorem UL50_3 {nl c : Nat} {Q : SV → List SO → Prop} {x0 x2 x4 x8 x9 x10 : SV} {os : List SO} (h : Ev (fun n => LB50_3 (callF prg n) (n + 1) nl (n + 1 - (c + 1)) x0 x2 x4 x8 x9 x10 os) Q) : Ev (fun n => L50_3 (callF prg n) (n + 1) nl (n + 1 - c) x0 x2 x4 x8 x9 x10 os) Q := ev_loop (L := fun n m => L50_3 (callF prg n) (n + 1) nl m x0 x2 x4 x8 x9 x10 os) (fun n m => L50_3_s _ _ _ _ _ _ _ _ _ _ _) h
theorem X50_s (K : Nat → List SV → List SO → Out) (N nl : Nat) (x0 x1 x2 : SV) (os : List SO) : X50 K N nl x0 x1 x2 os = B50 K N nl x0 x1 x2 os := by kernel_rfl
theorem E50 (n : Nat) (x0 x1 x2 : SV) (os : List SO) : callF prg (n + 1) 50 [x0, x1, x2] os = X50 (callF prg n) (n + 1) os.length x0 x1 x2 os := by kernel_rfl
theorem U50 {Q : SV → List SO → Prop} {x0 x1 x2 : SV} {os : List SO} {nl : Nat} (hnl : os.length = nl) (h : Ev (fun n => B50 (callF prg n) (n + 1) nl x0 x1 x2 os) Q) : Ev (fun n => callF prg n 50 [x0, x1, x2] os) Q := by subst hnl; exact ev_fun (fun n => (E50 n _ _ _ _).trans (X50_s _ _ _ _ _ _ _)) h
theorem E51 (n : Nat) (xs : List SV) (os : List SO) : callF prg (n + 1) 51 xs os = insS 4 64 xs os := by kernel_rfl
theorem E52 (n : Nat) (xs : List SV) (os : List SO) : callF prg (n + 1) 52 xs os = cloneS 2 16 xs os := by kernel_rfl
theorem E53 (n : Nat) (xs : List SV) (os : List SO) : callF prg (n + 1) 53 xs os = cloneS 2 16 xs os := by kernel_rfl
theorem L54_2_s (K : Nat → List SV → List SO → Out) (N nl : Nat) (m2 : Nat) (x0 x1 x7 x8 : SV) (os : List SO) : L54_2 K N nl (m2 + 1) x0 x1 x7 x8 os = LB54_2 K N nl m2 x0 x1 x7 x8 os := by kernel_rfl
theorem UL54_2 {nl c : Nat} {Q : SV → List SO → Prop} {x0 x1 x7 x8 : SV} {os : List SO} (h : Ev (fun n => LB54_2 (callF prg n) (n + 1) nl (n + 1 - (c + 1)) x0 x1 x7 x8 os) Q) : Ev (fun n => L54_2 (callF prg n) (n + 1) nl (n + 1 - c) x0 x1 x7 x8 os) Q := ev_loop (L := fun n m => L54_2 (callF prg n) (n + 1) nl m x0 x1 x7 x8 os) (fun n m => L54_2_s _ _ _ _ _ _ _ _ _) h
theorem X54_s (K : Nat → List SV → List SO → Out) (N nl : Nat) (x0 x1 : SV) (os : List SO) : X54 K N nl x0 x1 os = B54 K N nl x0 x1 os := by kernel_rfl
theorem E54 (n : Nat) (x0 x1 : SV) (os : List SO) : callF prg (n + 1) 54 [x0, x1] os = X54 (callF prg n) (n + 1) os.length x0 x1 os := by kernel_rfl
theorem U54 {Q : SV → List SO → Prop} {x0 x1 : SV} {os : List SO} {nl : Nat} (hnl : os.length = nl) (h : Ev (fun n => B54 (callF prg n) (n + 1) nl x0 x1 os) Q) : Ev (fun n => callF prg n 54 [x0, x1] os) Q := by subst hnl; exact ev_fun (fun n => (E54 n _ _ _).trans (X54_s _ _ _ _ _ _)) h
theorem X55_s (K : Nat → List SV → List SO → Out) (N nl : Nat) (x0 x1 : SV) (os : List SO) : X55 K N nl x0 x1 os = B55 K N nl x0 x1 os := by kernel_rfl
theorem E55 (n : Nat) (x0 x1 : SV) (os : List SO) : callF prg (n + 1) 55 [x0, x1] os = X55 (callF prg n) (n + 1) os.length x0 x1 os := by kernel_rfl
theorem U55 {Q : SV → List SO → Prop} {x0 x1 : SV} {os : List SO} {nl : Nat} (hnl : os.length = nl) (h : Ev (fun n => B55 (callF prg n) (n + 1) nl x0 x1 os) Q) : Ev (fun n => callF prg n 55 [x0, x1] os) Q := by subst hnl; exact ev_fun (fun n => (E55 n _ _ _).trans (X55_s _ _ _ _ _ _)) h
theorem X56_s (K : Nat → List SV → List SO → Out) (N nl : Nat) (x0 x1 : SV) (os : List SO) : X56 K N nl x0 x1 os = B56 K N nl x0 x1 os := by kernel_rfl
theorem E56 (n : Nat) (x0 x1 : SV) (os : List SO) : callF prg (n + 1) 56 [x0, x1] os = X56 (callF prg n) (n + 1) os.length x0 x1 os := by kernel_rfl
theorem U56 {Q : SV → List SO → Prop} {x0 x1 : SV} {os : List SO} {nl : Nat} (hnl : os.length = nl) (h : Ev (fun n => B56 (callF prg n) (n + 1) nl x0 x1 os) Q) : Ev (fun n => callF prg n 56 [x0, x1] os) Q := by subst hnl; exact ev_fun (fun n => (E56 n _ _ _).trans (X56_s _ _ _ _ _ _)) h
theorem L57_2_s (K : Nat → List SV → List SO → Out) (N nl : Nat) (m2 : Nat) (x0 x1 x4 x6 : SV) (os : List SO) : L57_2 K N nl (m2 + 1) x0 x1 x4 x6 os = gcB nl [x0, x1, x4, x6] os fun xs os => G57_2 K N nl m2 xs os := by kernel_rfl
theorem UL57_2 {nl c : Nat} {Q : SV → List SO → Prop} {x0 x1 x4 x6 : SV} {os : List SO} (h : Ev (fun n => gcB nl [x0, x1, x4, x6] os fun xs os => G57_2 (callF prg n) (n + 1) nl (n + 1 - (c + 1)) xs os) Q) : Ev (fun n => L57_2 (callF prg n) (n + 1) nl (n + 1 - c) x0 x1 x4 x6 os) Q := ev_loop (L := fun n m => L57_2 (callF prg n) (n + 1) nl m x0 x1 x4 x6 os) (fun n m => L57_2_s _ _ _ _ _ _ _ _ _) h
theorem VL57_2 {nl : Nat} {Q : SV → List SO → Prop} {x0 x1 x4 x6 : SV} {os : List SO} (h : Ev (fun n => gcB nl [x0, x1, x4, x6] os fun xs os => G57_2 (callF prg n) (n + 1) nl (n + 1 - 1) xs os) Q) : Ev (fun n => L57_2 (callF prg n) (n + 1) nl (n + 1) x0 x1 x4 x6 os) Q := UL57_2 (c := 0) h
theorem G57_2_s (K : Nat → List SV → List SO → Out) (N nl : Nat) (m2 : Nat) (x0 x1 x4 x6 : SV) (os : List SO) : G57_2 K N nl m2 [x0, x1, x4, x6] os = GB57_2 K N nl m2 x0 x1 x4 x6 os := by kernel_rfl
theorem UG57_2 {nl : Nat} {Q : SV → List SO → Prop} (m2 : Nat → Nat) {x0 x1 x4 x6 : SV} {os : List SO} (h : Ev (fun n => GB57_2 (callF prg n) (n + 1) nl (m2 n) x0 x1 x4 x6 os) Q) : Ev (fun n => G57_2 (callF prg n) (n + 1) nl (m2 n) [x0, x1, x4, x6] os) Q := ev_eq (fun n => G57_2_s _ _ _ _ _ _ _ _ _) h
theorem X57_s (K : Nat → List SV → List SO → Out) (N nl : Nat) (x0 x1 : SV) (os : List SO) : X57 K N nl x0 x1 os = B57 K N nl x0 x1 os := by kernel_rfl
theorem E57 (n : Nat) (x0 x1 : SV) (os : List SO) : callF prg (n + 1) 57 [x0, x1] os = X57 (callF prg n) (n + 1) os.length x0 x1 os := by kernel_rfl
theorem U57 {Q : SV → List SO → Prop} {x0 x1 : SV} {os : List SO} {nl : Nat} (hnl : os.length = nl) (h : Ev (fun n => B57 (callF prg n) (n + 1) nl x0 x1 os) Q) : Ev (fun n => callF prg n 57 [x0, x1] os) Q := by subst hnl; exact ev_fun (fun n => (E57 n _ _ _).trans (X57_s _ _ _ _ _ _)) h
theorem X58_s (K : Nat → List SV → List SO → Out) (N nl : Nat) (x0 x1 x2 x3 : SV) (os : List SO) : X58 K N nl x0 x1 x2 x3 os = B58 K N nl x0 x1 x2 x3 os := by kernel_rfl
theorem E58 (n : Nat) (x0 x1 x2 x3 : SV) (os : List SO) : callF prg (n + 1) 58 [x0, x1, x2, x3] os = X58 (callF prg n) (n + 1) os.length x0 x1 x2 x3 os := by kernel_rfl
theorem U58 {Q : SV → List SO → Prop} {x0 x1 x2 x3 : SV} {os : List SO} {nl : Nat} (hnl : os.length = nl) (h : Ev (fun n => B58 (callF prg n) (n + 1) nl x0 x1 x2 x3 os) Q) : Ev (fun n => callF prg n 58 [x0, x1, x2, x3] os) Q := by subst hnl; exact ev_fun (fun n => (E58 n _ _ _ _ _).trans (X58_s _ _ _ _ _ _ _ _)) h
theorem X59_s (K : Nat → List SV → List SO → Out) (N nl : Nat) (x0 : SV) (os : List SO) : X59 K N nl x0 os = B59 K N nl x0 os := by kernel_rfl
theorem E59 (n : Nat) (x0 : SV) (os : List SO) : callF prg (n + 1) 59 [x0] os = X59 (callF prg n) (n + 1) os.length x0 os := by kernel_rfl
theorem U59 {Q : SV → List SO → Prop} {x0 : SV} {os : List SO} {nl : Nat} (hnl : os.length = nl) (h : Ev (fun n => B59 (callF prg n) (n + 1) nl x0 os) Q) : Ev (fun n => callF prg n 59 [x0] os) Q := by subst hnl; exact ev_fun (fun n => (E59 n _ _).trans (X59_s _ _ _ _ _)) h
theorem X60_s (K : Nat → List SV → List SO → Out) (N nl : Nat) (x0 : SV) (os : List SO) : X60 K N nl x0 os = B60 K N nl x0 os := by kernel_rfl
theorem E60 (n : Nat) (x0 : SV) (os : List SO) : callF prg (n + 1) 60 [x0] os = X60 (callF prg n) (n + 1) os.length x0 os := by kernel_rfl
theorem U60 {Q : SV → List SO → Prop} {x0 : SV} {os : List SO} {nl : Nat} (hnl : os.length = nl) (h : Ev (fun n => B60 (callF prg n) (n + 1) nl x0 os) Q) : Ev (fun n => callF prg n 60 [x0] os) Q := by subst hnl; exact ev_fun (fun n => (E60 n _ _).trans (X60_s _ _ _ _ _)) h
theorem L61_3_s (K : Nat → List SV → List SO → Out) (N nl : Nat) (m3 : Nat) (x3 x6 x7 x8 : SV) (os : List SO) : L61_3 K N nl (m3 + 1) x3 x6 x7 x8 os = LB61_3 K N nl m3 x3 x6 x7 x8 os := by kernel_rfl
theorem UL61_3 {nl c : Nat} {Q : SV → List SO → Prop} {x3 x6 x7 x8 : SV} {os : List SO} (h : Ev (fun n => LB61_3 (callF prg n) (n + 1) nl (n + 1 - (c + 1)) x3 x6 x7 x8 os) Q) : Ev (fun n => L61_3 (callF prg n) (n + 1) nl (n + 1 - c) x3 x6 x7 x8 os) Q := ev_loop (L := fun n m => L61_3 (callF prg n) (n + 1) nl m x3 x6 x7 x8 os) (fun n m => L61_3_s _ _ _ _ _ _ _ _ _) h
theorem VL61_3 {nl : Nat} {Q : SV → List SO → Prop} {x3 x6 x7 x8 : SV} {os : List SO} (h : Ev (fun n => LB61_3 (callF prg n) (n + 1) nl (n + 1 - 1) x3 x6 x7 x8 os) Q) : Ev (fun n => L61_3 (callF prg n) (n + 1) nl (n + 1) x3 x6 x7 x8 os) Q := UL61_3 (c := 0) h
theorem X61_s (K : Nat → List SV → List SO → Out) (N nl : Nat) (x0 : SV) (os : List SO) : X61 K N nl x0 os = B61 K N nl x0 os := by kernel_rfl
theorem E61 (n : Nat) (x0 : SV) (os : List SO) : callF prg (n + 1) 61 [x0] os = X61 (callF prg n) (n + 1) os.length x0 os := by kernel_rfl
theorem U61 {Q : SV → List SO → Prop} {x0 : SV} {os : List SO} {nl : Nat} (hnl : os.length = nl) (h : Ev (fun n => B61 (callF prg n) (n + 1) nl x0 os) Q) : Ev (fun n => callF prg n 61 [x0] os) Q := by subst hnl; exact ev_fun (fun n => (E61 n _ _).trans (X61_s _ _ _ _ _)) h
theorem X62_s (K : Nat → List SV → List SO → Out) (N nl : Nat) (x0 x1 : SV) (os : List SO) : X62 K N nl x0 x1 os = B62 K N nl x0 x1 os := by kernel_rfl
theorem E62 (n : Nat) (x0 x1 : SV) (os : List SO) : callF prg (n + 1) 62 [x0, x1] os = X62 (callF prg n) (n + 1) os.length x0 x1 os := by kernel_rfl
theorem U62 {Q : SV → List SO → Prop} {x0 x1 : SV} {os : List SO} {nl : Nat} (hnl : os.length = nl) (h : Ev (fun n => B62 (callF prg n) (n + 1) nl x0 x1 os) Q) : Ev (fun n => callF prg n 62 [x0, x1] os) Q := by subst hnl; exact ev_fun (fun n => (E62 n _ _ _).trans (X62_s _ _ _ _ _ _)) h
theorem L65_2_s (K : Nat → List SV → List SO → Out) (N nl : Nat) (m2 : Nat) (x0 x1 x7 x8 : SV) (os : List SO) : L65_2 K N nl (m2 + 1) x0 x1 x7 x8 os = LB65_2 K N nl m2 x0 x1 x7 x8 os := by kernel_rfl
theorem UL65_2 {nl c : Nat} {Q : SV → List SO → Prop} {x0 x1 x7 x8 : SV} {os : List SO} (h : Ev (fun n => LB65_2 (callF prg n) (n + 1) nl (n + 1 - (c + 1)) x0 x1 x7 x8 os) Q) : Ev (fun n => L65_2 (callF prg n) (n + 1) nl (n + 1 - c) x0 x1 x7 x8 os) Q := ev_loop (L := fun n m => L65_2 (callF prg n) (n + 1) nl m x0 x1 x7 x8 os) (fun n m => L65_2_s _ _ _ _ _ _ _ _ _) h
theorem X65_s (K : Nat → List SV → List SO → Out) (N nl : Nat) (x0 x1 : SV) (os : List SO) : X65 K N nl x0 x1 os = B65 K N nl x0 x1 os := by kernel_rfl
theorem E65 (n : Nat) (x0 x1 : SV) (os : List SO) : callF prg (n + 1) 65 [x0, x1] os = X65 (callF prg n) (n + 1) os.length x0 x1 os := by kernel_rfl
theorem U65 {Q : SV → List SO → Prop} {x0 x1 : SV} {os : List SO} {nl : Nat} (hnl : os.length = nl) (h : Ev (fun n => B65 (callF prg n) (n + 1) nl x0 x1 os) Q) : Ev (fun n => callF prg n 65 [x0, x1] os) Q := by subst hnl; exact ev_fun (fun n => (E65 n _ _ _).trans (X65_s _ _ _ _ _ _)) h
theorem X66_s (K : Nat → List SV → List SO → Out) (N nl : Nat) (x0 : SV) (os : List SO) : X66 K N nl x0 os = B66 K N nl x0 os := by kernel_rfl
theorem E66 (n : Nat) (x0 : SV) (os : List SO) : callF prg (n + 1) 66 [x0] os = X66 (callF prg n) (n + 1) os.length x0 os := by kernel_rfl
theorem U66 {Q : SV → List SO → Prop} {x0 : SV} {os : List SO} {nl : Nat} (hnl : os.length = nl) (h : Ev (fun n => B66 (callF prg n) (n + 1) nl x0 os) Q) : Ev (fun n => callF prg n 66 [x0] os) Q := by subst hnl; exact ev_fun (fun n => (E66 n _ _).trans (X66_s _ _ _ _ _)) h
theorem L67_2_s (K : Nat → List SV → List SO → Out) (N nl : Nat) (m2 : Nat) (x0 x3 : SV) (os : List SO) : L67_2 K N nl (m2 + 1) x0 x3 os = LB67_2 K N nl m2 x0 x3 os := by kernel_rfl
theorem UL67_2 {nl c : Nat} {Q : SV → List SO → Prop} {x0 x3 : SV} {os : List SO} (h : Ev (fun n => LB67_2 (callF prg n) (n + 1) nl (n + 1 - (c + 1)) x0 x3 os) Q) : Ev (fun n => L67_2 (callF prg n) (n + 1) nl (n + 1 - c) x0 x3 os) Q := ev_loop (L := fun n m => L67_2 (callF prg n) (n + 1) nl m x0 x3 os) (fun n m => L67_2_s _ _ _ _ _ _ _) h
theorem X67_s (K : Nat → List SV → List SO → Out) (N nl : Nat) (x0 : SV) (os : List SO) : X67 K N nl x0 os = B67 K N nl x0 os := by kernel_rfl
theorem E67 (n : Nat) (x0 : SV) (os : List SO) : callF prg (n + 1) 67 [x0] os = X67 (callF prg n) (n + 1) os.length x0 os := by kernel_rfl
theorem U67 {Q : SV → List SO → Prop} {x0 : SV} {os : List SO} {nl : Nat} (hnl : os.length = nl) (h : Ev (fun n => B67 (callF prg n) (n + 1) nl x0 os) Q) : Ev (fun n => callF prg n 67 [x0] os) Q := by subst hnl; exact ev_fun (fun n => (E67 n _ _).trans (X67_s _ _ _ _ _)) h
theorem L68_2_s (K : Nat → List SV → List SO → Out) (N nl : Nat) (m2 : Nat) (x0 x1 x5 : SV) (os : List SO) : L68_2 K N nl (m2 + 1) x0 x1 x5 os = gcB nl [x0, x1, x5] os fun xs os => G68_2 K N nl m2 xs os := by kernel_rfl
theorem UL68_2 {nl c : Nat} {Q : SV → List SO → Prop} {x0 x1 x5 : SV} {os : List SO} (h : Ev (fun n => gcB nl [x0, x1, x5] os fun xs os => G68_2 (callF prg n) (n + 1) nl (n + 1 - (c + 1)) xs os) Q) : Ev (fun n => L68_2 (callF prg n) (n + 1) nl (n + 1 - c) x0 x1 x5 os) Q := ev_loop (L := fun n m => L68_2 (callF prg n) (n + 1) nl m x0 x1 x5 os) (fun n m => L68_2_s _ _ _ _ _ _ _ _) h
theorem VL68_2 {nl : Nat} {Q : SV → List SO → Prop} {x0 x1 x5 : SV} {os : List SO} (h : Ev (fun n => gcB nl [x0, x1, x5] os fun xs os => G68_2 (callF prg n) (n + 1) nl (n + 1 - 1) xs os) Q) : Ev (fun n => L68_2 (callF prg n) (n + 1) nl (n + 1) x0 x1 x5 os) Q := UL68_2 (c := 0) h
theorem G68_2_s (K : Nat → List SV → List SO → Out) (N nl : Nat) (m2 : Nat) (x0 x1 x5 : SV) (os : List SO) : G68_2 K N nl m2 [x0, x1, x5] os = GB68_2 K N nl m2 x0 x1 x5 os := by kernel_rfl
theorem UG68_2 {nl : Nat} {Q : SV → List SO → Prop} (m2 : Nat → Nat) {x0 x1 x5 : SV} {os : List SO} (h : Ev (fun n => GB68_2 (callF prg n) (n + 1) nl (m2 n) x0 x1 x5 os) Q) : Ev (fun n => G68_2 (callF prg n) (n + 1) nl (m2 n) [x0, x1, x5] os) Q := ev_eq (fun n => G68_2_s _ _ _ _ _ _ _ _) h
theorem X68_s (K : Nat → List SV → List SO → Out) (N nl : Nat) (x0 x1 : SV) (os : List SO) : X68 K N nl x0 x1 os = B68 K N nl x0 x1 os := by kernel_rfl
theorem E68 (n : Nat) (x0 x1 : SV) (os : List SO) : callF prg (n + 1) 68 [x0, x1] os = X68 (callF prg n) (n + 1) os.length x0 x1 os := by kernel_rfl
theorem U68 {Q : SV → List SO → Prop} {x0 x1 : SV} {os : List SO} {nl : Nat} (hnl : os.length = nl) (h : Ev (fun n => B68 (callF prg n) (n + 1) nl x0 x1 os) Q) : Ev (fun n => callF prg n 68 [x0, x1] os) Q := by subst hnl; exact ev_fun (fun n => (E68 n _ _ _).trans (X68_s _ _ _ _ _ _)) h
theorem X69_s (K : Nat → List SV → List SO → Out) (N nl : Nat) (x0 : SV) (os : List SO) : X69 K N nl x0 os = B69 K N nl x0 os := by kernel_rfl
theorem E69 (n : Nat) (x0 : SV) (os : List SO) : callF prg (n + 1) 69 [x0] os = X69 (callF prg n) (n + 1) os.length x0 os := by kernel_rfl
theorem U69 {Q : SV → List SO → Prop} {x0 : SV} {os : List SO} {nl : Nat} (hnl : os.length = nl) (h : Ev (fun n => B69 (callF prg n) (n + 1) nl x0 os) Q) : Ev (fun n => callF prg n 69 [x0] os) Q := by subst hnl; exact ev_fun (fun n => (E69 n _ _).trans (X69_s _ _ _ _ _)) h
end Go.Proofs.Ytlnenahbffkbiaa

/- The evaluator S: the tables of this seat are right (by the kernel). -/
namespace Go.Proofs.Ytlnenahbffkbiaa
open Go
set_option maxRecDepth 100000
theorem tabR : TabOk Try.prog tab := tab_ok (by kernel_rfl) (by kernel_rfl) (by kernel_rfl)
def codesOk (P : Program) (fis : Nat → FnI) : Nat → List (Option Func) → Prop
  | _, [] => True
  | k, none :: l => codesOk P fis (k + 1) l
  | k, some fn :: l => (P.funcs[k]? = some fn ∧ (fn.name == "runtime.NumGoroutine") = false ∧ (fis k).nt ≤ fn.ntmps) ∧ codesOk P fis (k + 1) l
theorem codesOk_get {P : Program} {fis : Nat → FnI} : ∀ {l : List (Option Func)} {k : Nat}, codesOk P fis k l → ∀ (f : Nat) (fn : Func), l[f]? = some (some fn) → P.funcs[k + f]? = some fn ∧ (fn.name == "runtime.NumGoroutine") = false ∧ (fis (k + f)).nt ≤ fn.ntmps
  | [], _, _, f, fn, h => by simp at h
  | x :: l, k, hc, f, fn, h => by
    cases f with
    | zero =>
      simp at h; subst h
      exact hc.1
    | succ f =>
      have hl : codesOk P fis (k + 1) l := by
        cases x with
        | none => exact hc
        | some g => exact hc.2
      have := codesOk_get hl f fn (by simpa using h)
      rw [show k + (f + 1) = k + 1 + f by omega]; exact this
theorem cok3 : Try.prog.funcs[3]? = some Try.f3 ∧ (Try.f3.name == "runtime.NumGoroutine") = false ∧ (prg.fi 3).nt ≤ Try.f3.ntmps := ⟨Try.func3, by kernel_rfl, Nat.le_of_ble_eq_true (by kernel_rfl)⟩
theorem cok4 : Try.prog.funcs[4]? = some Try.f4 ∧ (Try.f4.name == "runtime.NumGoroutine") = false ∧ (prg.fi 4).nt ≤ Try.f4.ntmps := ⟨Try.func4, by kernel_rfl, Nat.le_of_ble_eq_true (by kernel_rfl)⟩
theorem cok5 : Try.prog.funcs[5]? = some Try.f5 ∧ (Try.f5.name == "runtime.NumGoroutine") = false ∧ (prg.fi 5).nt ≤ Try.f5.ntmps := ⟨Try.func5, by kernel_rfl, Nat.le_of_ble_eq_true (by kernel_rfl)⟩
theorem cok6 : Try.prog.funcs[6]? = some Try.f6 ∧ (Try.f6.name == "runtime.NumGoroutine") = false ∧ (prg.fi 6).nt ≤ Try.f6.ntmps := ⟨Try.func6, by kernel_rfl, Nat.le_of_ble_eq_true (by kernel_rfl)⟩
theorem cok7 : Try.prog.funcs[7]? = some Try.f7 ∧ (Try.f7.name == "runtime.NumGoroutine") = false ∧ (prg.fi 7).nt ≤ Try.f7.ntmps := ⟨Try.func7, by kernel_rfl, Nat.le_of_ble_eq_true (by kernel_rfl)⟩
theorem cok8 : Try.prog.funcs[8]? = some Try.f8 ∧ (Try.f8.name == "runtime.NumGoroutine") = false ∧ (prg.fi 8).nt ≤ Try.f8.ntmps := ⟨Try.func8, by kernel_rfl, Nat.le_of_ble_eq_true (by kernel_rfl)⟩
theorem cok9 : Try.prog.funcs[9]? = some Try.f9 ∧ (Try.f9.name == "runtime.NumGoroutine") = false ∧ (prg.fi 9).nt ≤ Try.f9.ntmps := ⟨Try.func9, by kernel_rfl, Nat.le_of_ble_eq_true (by kernel_rfl)⟩
theorem cok10 : Try.prog.funcs[10]? = some Try.f10 ∧ (Try.f10.name == "runtime.NumGoroutine") = false ∧ (prg.fi 10).nt ≤ Try.f10.ntmps := ⟨Try.func10, by kernel_rfl, Nat.le_of_ble_eq_true (by kernel_rfl)⟩
theorem cok11 : Try.prog.funcs[11]? = some Try.f11 ∧ (Try.f11.name == "runtime.NumGoroutine") = false ∧ (prg.fi 11).nt ≤ Try.f11.ntmps := ⟨Try.func11, by kernel_rfl, Nat.le_of_ble_eq_true (by kernel_rfl)⟩
theorem cok12 : Try.prog.funcs[12]? = some Try.f12 ∧ (Try.f12.name == "runtime.NumGoroutine") = false ∧ (prg.fi 12).nt ≤ Try.f12.ntmps := ⟨Try.func12, by kernel_rfl, Nat.le_of_ble_eq_true (by kernel_rfl)⟩
theorem cok13 : Try.prog.funcs[13]? = some Try.f13 ∧ (Try.f13.name == "runtime.NumGoroutine") = false ∧ (prg.fi 13).nt ≤ Try.f13.ntmps := ⟨Try.func13, by kernel_rfl, Nat.le_of_ble_eq_true (by kernel_rfl)⟩
theorem cok14 : Try.prog.funcs[14]? = some Try.f14 ∧ (Try.f14.name == "runtime.NumGoroutine") = false ∧ (prg.fi 14).nt ≤ Try.f14.ntmps := ⟨Try.func14, by kernel_rfl, Nat.le_of_ble_eq_true (by kernel_rfl)⟩
theorem cok15 : Try.prog.funcs[15]? = some Try.f15 ∧ (Try.f15.name == "runtime.NumGoroutine") = false ∧ (prg.fi 15).nt ≤ Try.f15.ntmps := ⟨Try.func15, by kernel_rfl, Nat.le_of_ble_eq_true (by kernel_rfl)⟩
theorem cok16 : Try.prog.funcs[16]? = some Try.f16 ∧ (Try.f16.name == "runtime.NumGoroutine") = false ∧ (prg.fi 16).nt ≤ Try.f16.ntmps := ⟨Try.func16, by kernel_rfl, Nat.le_of_ble_eq_true (by kernel_rfl)⟩
theorem cok17 : Try.prog.funcs[17]? = some Try.f17 ∧ (Try.f17.name == "runtime.NumGoroutine") = false ∧ (prg.fi 17).nt ≤ Try.f17.ntmps := ⟨Try.func17, by kernel_rfl, Nat.le_of_ble_eq_true (by kernel_rfl)⟩
theorem cok18 : Try.prog.funcs[18]? = some Try.f18 ∧ (Try.f18.name == "runtime.NumGoroutine") = false ∧ (prg.fi 18).nt ≤ Try.f18.ntmps := ⟨Try.func18, by kernel_rfl, Nat.le_of_ble_eq_true (by kernel_rfl)⟩
theorem cok19 : Try.prog.funcs[19]? = some Try.f19 ∧ (Try.f19.name == "runtime.NumGoroutine") = false ∧ (prg.fi 19).nt ≤ Try.f19.ntmps := ⟨Try.func19, by kernel_rfl, Nat.le_of_ble_eq_true (by kernel_rfl)⟩
theorem cok20 : Try.prog.funcs[20]? = some Try.f20 ∧ (Try.f20.name == "runtime.NumGoroutine") = false ∧ (prg.fi 20).nt ≤ Try.f20.ntmps := ⟨Try.func20, by kernel_rfl, Nat.le_of_ble_eq_true (by kernel_rfl)⟩
theorem cok21 : Try.prog.funcs[21]? = some Try.f21 ∧ (Try.f21.name == "runtime.NumGoroutine") = false ∧ (prg.fi 21).nt ≤ Try.f21.ntmps := ⟨Try.func21, by kernel_rfl, Nat.le_of_ble_eq_true (by kernel_rfl)⟩
theorem cok22 : Try.prog.funcs[22]? = some Try.f22 ∧ (Try.f22.name == "runtime.NumGoroutine") = false ∧ (prg.fi 22).nt ≤ Try.f22.ntmps := ⟨Try.func22, by kernel_rfl, Nat.le_of_ble_eq_true (by kernel_rfl)⟩
theorem cok23 : Try.prog.funcs[23]? = some Try.f23 ∧ (Try.f23.name == "runtime.NumGoroutine") = false ∧ (prg.fi 23).nt ≤ Try.f23.ntmps := ⟨Try.func23, by kernel_rfl, Nat.le_of_ble_eq_true (by kernel_rfl)⟩
theorem cok24 : Try.prog.funcs[24]? = some Try.f24 ∧ (Try.f24.name == "runtime.NumGoroutine") = false ∧ (prg.fi 24).nt ≤ Try.f24.ntmps := ⟨Try.func24, by kernel_rfl, Nat.le_of_ble_eq_true (by kernel_rfl)⟩
theorem cok25 : Try.prog.funcs[25]? = some Try.f25 ∧ (Try.f25.name == "runtime.NumGoroutine") = false ∧ (prg.fi 25).nt ≤ Try.f25.ntmps := ⟨Try.func25, by kernel_rfl, Nat.le_of_ble_eq_true (by kernel_rfl)⟩
theorem cok26 : Try.prog.funcs[26]? = some Try.f26 ∧ (Try.f26.name == "runtime.NumGoroutine") = false ∧ (prg.fi 26).nt ≤ Try.f26.ntmps := ⟨Try.func26, by kernel_rfl, Nat.le_of_ble_eq_true (by kernel_rfl)⟩
theorem cok27 : Try.prog.funcs[27]? = some Try.f27 ∧ (Try.f27.name == "runtime.NumGoroutine") = false ∧ (prg.fi 27).nt ≤ Try.f27.ntmps := ⟨Try.func27, by kernel_rfl, Nat.le_of_ble_eq_true (by kernel_rfl)⟩
theorem cok28 : Try.prog.funcs[28]? = some Try.f28 ∧ (Try.f28.name == "runtime.NumGoroutine") = false ∧ (prg.fi 28).nt ≤ Try.f28.ntmps := ⟨Try.func28, by kernel_rfl, Nat.le_of_ble_eq_true (by kernel_rfl)⟩
theorem cok29 : Try.prog.funcs[29]? = some Try.f29 ∧ (Try.f29.name == "runtime.NumGoroutine") = false ∧ (prg.fi 29).nt ≤ Try.f29.ntmps := ⟨Try.func29, by kernel_rfl, Nat.le_of_ble_eq_true (by kernel_rfl)⟩
theorem cok30 : Try.prog.funcs[30]? = some Try.f30 ∧ (Try.f30.name == "runtime.NumGoroutine") = false ∧ (prg.fi 30).nt ≤ Try.f30.ntmps := ⟨Try.func30, by kernel_rfl, Nat.le_of_ble_eq_true (by kernel_rfl)⟩
theorem cok31 : Try.prog.funcs[31]? = some Try.f31 ∧ (Try.f31.name == "runtime.NumGoroutine") = false ∧ (prg.fi 31).nt ≤ Try.f31.ntmps := ⟨Try.func31, by kernel_rfl, Nat.le_of_ble_eq_true (by kernel_rfl)⟩
theorem cok32 : Try.prog.funcs[32]? = some Try.f32 ∧ (Try.f32.name == "runtime.NumGoroutine") = false ∧ (prg.fi 32).nt ≤ Try.f32.ntmps := ⟨Try.func32, by kernel_rfl, Nat.le_of_ble_eq_true (by kernel_rfl)⟩
theorem cok33 : Try.prog.funcs[33]? = some Try.f33 ∧ (Try.f33.name == "runtime.NumGoroutine") = false ∧ (prg.fi 33).nt ≤ Try.f33.ntmps := ⟨Try.func33, by kernel_rfl, Nat.le_of_ble_eq_true (by kernel_rfl)⟩
theorem cok34 : Try.prog.funcs[34]? = some Try.f34 ∧ (Try.f34.name == "runtime.NumGoroutine") = false ∧ (prg.fi 34).nt ≤ Try.f34.ntmps := ⟨Try.func34, by kernel_rfl, Nat.le_of_ble_eq_true (by kernel_rfl)⟩
theorem cok35 : Try.prog.funcs[35]? = some Try.f35 ∧ (Try.f35.name == "runtime.NumGoroutine") = false ∧ (prg.fi 35).nt ≤ Try.f35.ntmps := ⟨Try.func35, by kernel_rfl, Nat.le_of_ble_eq_true (by kernel_rfl)⟩
theorem cok36 : Try.prog.funcs[36]? = some Try.f36 ∧ (Try.f36.name == "runtime.NumGoroutine") = false ∧ (prg.fi 36).nt ≤ Try.f36.ntmps := ⟨Try.func36, by kernel_rfl, Nat.le_of_ble_eq_true (by kernel_rfl)⟩
theorem cok37 : Try.prog.funcs[37]? = some Try.f37 ∧ (Try.f37.name == "runtime.NumGoroutine") = false ∧ (prg.fi 37).nt ≤ Try.f37.ntmps := ⟨Try.func37, by kernel_rfl, Nat.le_of_ble_eq_true (by kernel_rfl)⟩
theorem cok38 : Try.prog.funcs[38]? = some Try.f38 ∧ (Try.f38.name == "runtime.NumGoroutine") = false ∧ (prg.fi 38).nt ≤ Try.f38.ntmps := ⟨Try.func38, by kernel_rfl, Nat.le_of_ble_eq_true (by kernel_rfl)⟩
theorem cok39 : Try.prog.funcs[39]? = some Try.f39 ∧ (Try.f39.name == "runtime.NumGoroutine") = false ∧ (prg.fi 39).nt ≤ Try.f39.ntmps := ⟨Try.func39, by kernel_rfl, Nat.le_of_ble_eq_true (by kernel_rfl)⟩
theorem cok40 : Try.prog.funcs[40]? = some Try.f40 ∧ (Try.f40.name == "runtime.NumGoroutine") = false ∧ (prg.fi 40).nt ≤ Try.f40.ntmps := ⟨Try.func40, by kernel_rfl, Nat.le_of_ble_eq_true (by kernel_rfl)⟩
theorem cok41 : Try.prog.funcs[41]? = some Try.f41 ∧ (Try.f41.name == "runtime.NumGoroutine") = false ∧ (prg.fi 41).nt ≤ Try.f41.ntmps := ⟨Try.func41, by kernel_rfl, Nat.le_of_ble_eq_true (by kernel_rfl)⟩
theorem cok42 : Try.prog.funcs[42]? = some Try.f42 ∧ (Try.f42.name == "runtime.NumGoroutine") = false ∧ (prg.fi 42).nt ≤ Try.f42.ntmps := ⟨Try.func42, by kernel_rfl, Nat.le_of_ble_eq_true (by kernel_rfl)⟩
theorem cok43 : Try.prog.funcs[43]? = some Try.f43 ∧ (Try.f43.name == "runtime.NumGoroutine") = false ∧ (prg.fi 43).nt ≤ Try.f43.ntmps := ⟨Try.func43, by kernel_rfl, Nat.le_of_ble_eq_true (by kernel_rfl)⟩
theorem cok44 : Try.prog.funcs[44]? = some Try.f44 ∧ (Try.f44.name == "runtime.NumGoroutine") = false ∧ (prg.fi 44).nt ≤ Try.f44.ntmps := ⟨Try.func44, by kernel_rfl, Nat.le_of_ble_eq_true (by kernel_rfl)⟩
theorem cok45 : Try.prog.funcs[45]? = some Try.f45 ∧ (Try.f45.name == "runtime.NumGoroutine") = false ∧ (prg.fi 45).nt ≤ Try.f45.ntmps := ⟨Try.func45, by kernel_rfl, Nat.le_of_ble_eq_true (by kernel_rfl)⟩
theorem cok46 : Try.prog.funcs[46]? = some Try.f46 ∧ (Try.f46.name == "runtime.NumGoroutine") = false ∧ (prg.fi 46).nt ≤ Try.f46.ntmps := ⟨Try.func46, by kernel_rfl, Nat.le_of_ble_eq_true (by kernel_rfl)⟩
theorem cok47 : Try.prog.funcs[47]? = some Try.f47 ∧ (Try.f47.name == "runtime.NumGoroutine") = false ∧ (prg.fi 47).nt ≤ Try.f47.ntmps := ⟨Try.func47, by kernel_rfl, Nat.le_of_ble_eq_true (by kernel_rfl)⟩
theorem cok48 : Try.prog.funcs[48]? = some Try.f48 ∧ (Try.f48.name == "runtime.NumGoroutine") = false ∧ (prg.fi 48).nt ≤ Try.f48.ntmps := ⟨Try.func48, by kernel_rfl, Nat.le_of_ble_eq_true (by kernel_rfl)⟩
theorem cok49 : Try.prog.funcs[49]? = some Try.f49 ∧ (Try.f49.name == "runtime.NumGoroutine") = false ∧ (prg.fi 49).nt ≤ Try.f49.ntmps := ⟨Try.func49, by kernel_rfl, Nat.le_of_ble_eq_true (by kernel_rfl)⟩
theorem cok50 : Try.prog.funcs[50]? = some Try.f50 ∧ (Try.f50.name == "runtime.NumGoroutine") = false ∧ (prg.fi 50).nt ≤ Try.f50.ntmps := ⟨Try.func50, by kernel_rfl, Nat.le_of_ble_eq_true (by kernel_rfl)⟩
theorem cok51 : Try.prog.funcs[51]? = some Try.f51 ∧ (Try.f51.name == "runtime.NumGoroutine") = false ∧ (prg.fi 51).nt ≤ Try.f51.ntmps := ⟨Try.func51, by kernel_rfl, Nat.le_of_ble_eq_true (by kernel_rfl)⟩
theorem cok52 : Try.prog.funcs[52]? = some Try.f52 ∧ (Try.f52.name == "runtime.NumGoroutine") = false ∧ (prg.fi 52).nt ≤ Try.f52.ntmps := ⟨Try.func52, by kernel_rfl, Nat.le_of_ble_eq_true (by kernel_rfl)⟩
theorem cok53 : Try.prog.funcs[53]? = some Try.f53 ∧ (Try.f53.name == "runtime.NumGoroutine") = false ∧ (prg.fi 53).nt ≤ Try.f53.ntmps := ⟨Try.func53, by kernel_rfl, Nat.le_of_ble_eq_true (by kernel_rfl)⟩
theorem cok54 : Try.prog.funcs[54]? = some Try.f54 ∧ (Try.f54.name == "runtime.NumGoroutine") = false ∧ (prg.fi 54).nt ≤ Try.f54.ntmps := ⟨Try.func54, by kernel_rfl, Nat.le_of_ble_eq_true (by kernel_rfl)⟩
theorem cok55 : Try.prog.funcs[55]? = some Try.f55 ∧ (Try.f55.name == "runtime.NumGoroutine") = false ∧ (prg.fi 55).nt ≤ Try.f55.ntmps := ⟨Try.func55, by kernel_rfl, Nat.le_of_ble_eq_true (by kernel_rfl)⟩
theorem cok56 : Try.prog.funcs[56]? = some Try.f56 ∧ (Try.f56.name == "runtime.NumGoroutine") = false ∧ (prg.fi 56).nt ≤ Try.f56.ntmps := ⟨Try.func56, by kernel_rfl, Nat.le_of_ble_eq_true (by kernel_rfl)⟩
theorem cok57 : Try.prog.funcs[57]? = some Try.f57 ∧ (Try.f57.name == "runtime.NumGoroutine") = false ∧ (prg.fi 57).nt ≤ Try.f57.ntmps := ⟨Try.func57, by kernel_rfl, Nat.le_of_ble_eq_true (by kernel_rfl)⟩
theorem cok58 : Try.prog.funcs[58]? = some Try.f58 ∧ (Try.f58.name == "runtime.NumGoroutine") = false ∧ (prg.fi 58).nt ≤ Try.f58.ntmps := ⟨Try.func58, by kernel_rfl, Nat.le_of_ble_eq_true (by kernel_rfl)⟩
theorem cok59 : Try.prog.funcs[59]? = some Try.f59 ∧ (Try.f59.name == "runtime.NumGoroutine") = false ∧ (prg.fi 59).nt ≤ Try.f59.ntmps := ⟨Try.func59, by kernel_rfl, Nat.le_of_ble_eq_true (by kernel_rfl)⟩
theorem cok60 : Try.prog.funcs[60]? = some Try.f60 ∧ (Try.f60.name == "runtime.NumGoroutine") = false ∧ (prg.fi 60).nt ≤ Try.f60.ntmps := ⟨Try.func60, by kernel_rfl, Nat.le_of_ble_eq_true (by kernel_rfl)⟩
theorem cok61 : Try.prog.funcs[61]? = some Try.f61 ∧ (Try.f61.name == "runtime.NumGoroutine") = false ∧ (prg.fi 61).nt ≤ Try.f61.ntmps := ⟨Try.func61, by kernel_rfl, Nat.le_of_ble_eq_true (by kernel_rfl)⟩
theorem cok62 : Try.prog.funcs[62]? = some Try.f62 ∧ (Try.f62.name == "runtime.NumGoroutine") = false ∧ (prg.fi 62).nt ≤ Try.f62.ntmps := ⟨Try.func62, by kernel_rfl, Nat.le_of_ble_eq_true (by kernel_rfl)⟩
theorem cok64 : Try.prog.funcs[64]? = some Try.f64 ∧ (Try.f64.name == "runtime.NumGoroutine") = false ∧ (prg.fi 64).nt ≤ Try.f64.ntmps := ⟨Try.func64, by kernel_rfl, Nat.le_of_ble_eq_true (by kernel_rfl)⟩
theorem cok65 : Try.prog.funcs[65]? = some Try.f65 ∧ (Try.f65.name == "runtime.NumGoroutine") = false ∧ (prg.fi 65).nt ≤ Try.f65.ntmps := ⟨Try.func65, by kernel_rfl, Nat.le_of_ble_eq_true (by kernel_rfl)⟩
theorem cok66 : Try.prog.funcs[66]? = some Try.f66 ∧ (Try.f66.name == "runtime.NumGoroutine") = false ∧ (prg.fi 66).nt ≤ Try.f66.ntmps := ⟨Try.func66, by kernel_rfl, Nat.le_of_ble_eq_true (by kernel_rfl)⟩
theorem cok67 : Try.prog.funcs[67]? = some Try.f67 ∧ (Try.f67.name == "runtime.NumGoroutine") = false ∧ (prg.fi 67).nt ≤ Try.f67.ntmps := ⟨Try.func67, by kernel_rfl, Nat.le_of_ble_eq_true (by kernel_rfl)⟩
theorem cok68 : Try.prog.funcs[68]? = some Try.f68 ∧ (Try.f68.name == "runtime.NumGoroutine") = false ∧ (prg.fi 68).nt ≤ Try.f68.ntmps := ⟨Try.func68, by kernel_rfl, Nat.le_of_ble_eq_true (by kernel_rfl)⟩
theorem cok69 : Try.prog.funcs[69]? = some Try.f69 ∧ (Try.f69.name == "runtime.NumGoroutine") = false ∧ (prg.fi 69).nt ≤ Try.f69.ntmps := ⟨Try.func69, by kernel_rfl, Nat.le_of_ble_eq_true (by kernel_rfl)⟩
theorem cok70 : Try.prog.funcs[70]? = some Try.f70 ∧ (Try.f70.name == "runtime.NumGoroutine") = false ∧ (prg.fi 70).nt ≤ Try.f70.ntmps := ⟨Try.func70, by kernel_rfl, Nat.le_of_ble_eq_true (by kernel_rfl)⟩
theorem cok71 : Try.prog.funcs[71]? = some Try.f71 ∧ (Try.f71.name == "runtime.NumGoroutine") = false ∧ (prg.fi 71).nt ≤ Try.f71.ntmps := ⟨Try.func71, by kernel_rfl, Nat.le_of_ble_eq_true (by kernel_rfl)⟩
theorem codesR : codesOk Try.prog prg.fi 0 codeL := ⟨cok3, ⟨cok4, ⟨cok5, ⟨cok6, ⟨cok7, ⟨cok8, ⟨cok9, ⟨cok10, ⟨cok11, ⟨cok12, ⟨cok13, ⟨cok14, ⟨cok15, ⟨cok16, ⟨cok17, ⟨cok18, ⟨cok19, ⟨cok20, ⟨cok21, ⟨cok22, ⟨cok23, ⟨cok24, ⟨cok25, ⟨cok26, ⟨cok27, ⟨cok28, ⟨cok29, ⟨cok30, ⟨cok31, ⟨cok32, ⟨cok33, ⟨cok34, ⟨cok35, ⟨cok36, ⟨cok37, ⟨cok38, ⟨cok39, ⟨cok40, ⟨cok41, ⟨cok42, ⟨cok43, ⟨cok44, ⟨cok45, ⟨cok46, ⟨cok47, ⟨cok48, ⟨cok49, ⟨cok50, ⟨cok51, ⟨cok52, ⟨cok53, ⟨cok54, ⟨cok55, ⟨cok56, ⟨cok57, ⟨cok58, ⟨cok59, ⟨cok60, ⟨cok61, ⟨cok62, ⟨cok64, ⟨cok65, ⟨cok66, ⟨cok67, ⟨cok68, ⟨cok69, ⟨cok70, ⟨cok71, trivial⟩⟩⟩⟩⟩⟩⟩⟩⟩⟩⟩⟩⟩⟩⟩⟩⟩⟩⟩⟩⟩⟩⟩⟩⟩⟩⟩⟩⟩⟩⟩⟩⟩⟩⟩⟩⟩⟩⟩⟩⟩⟩⟩⟩⟩⟩⟩⟩⟩⟩⟩⟩⟩⟩⟩⟩⟩⟩⟩⟩⟩⟩⟩⟩⟩⟩⟩⟩
theorem prgR : PrgOK Try.prog prg where
  tab := tabR
  code := fun f fn h => by
    have h' : codeL[f]? = some (some fn) := by
      have h2 : (codeL[f]?).getD none = some fn := h
      cases hx : codeL[f]? with
      | none => rw [hx] at h2; cases h2
      | some x => rw [hx] at h2; exact congrArg some h2
    have := codesOk_get codesR f fn h'
    simpa using this
  prim := fun f q h => by
    have h' : primF f = some q := h
    unfold primF at h'
    split at h'
    · rename_i e; subst e; cases h'; exact clone_ok (t := 30) (e := 60) (b := 4) (i := ⟨2, 16, true, [.int .i64, .int .i64]⟩) tabR Try.func52 (by kernel_rfl) (by kernel_rfl) (by kernel_rfl) (by kernel_rfl) (by kernel_rfl) (by kernel_rfl) (by kernel_rfl)
    split at h'
    · rename_i e; subst e; cases h'; exact clone_ok (t := 31) (e := 39) (b := 4) (i := ⟨2, 16, true, [.int .i64, .int .i64]⟩) tabR Try.func53 (by kernel_rfl) (by kernel_rfl) (by kernel_rfl) (by kernel_rfl) (by kernel_rfl) (by kernel_rfl) (by kernel_rfl)
    split at h'
    · rename_i e; subst e; cases h'; exact ins_ok (ti := ⟨4, 64, true, [.int .i64, .int .i64, .sl 2, .sl 2]⟩) tabR (by kernel_rfl) (by kernel_rfl) (by kernel_rfl) (by kernel_rfl)
    cases h'
  mix := by kernel_rfl
end Go.Proofs.Ytlnenahbffkbiaa
/- What the functions of the kit give: the range, the reader of a code. -/
namespace Go.Proofs.Ytlnenahbffkbiaa
open Go
set_option linter.unusedVariables false
set_option linter.unusedSimpArgs false
theorem s_l6In (n lo hi : Int) : Ex (fun m => callF prg m 23 [iI n, iI lo, iI hi] []) (bB (decide (lo ≤ n ∧ n ≤ hi))) [] := by
  refine ev_is.1 (U23 (nl := 0) rfl ?_)
  unfold B23
  repeat' (first | ((with_reducible refine eG ?_); first | (with_reducible first | refine ev_gtt ?_ | refine ev_gff ?_ | refine ev_gtf ?_ | refine ev_gft ?_ | refine ev_gu ?_) | refine ev_bd rfl ?_ | refine ev_bd0 rfl ?_ | ((with_reducible refine ev_gB ?_ ?_) <;> intro h)) | ((with_reducible refine eB ?_); first | ((with_reducible first | refine ev_leq ?_ ?_ | refine ev_geq ?_ ?_) <;> intro h <;> try (exfalso; omega)) | refine ev_bd rfl ?_ | refine ev_bd0 rfl ?_) | ((with_reducible refine eD ?_); first | refine ev_bd rfl ?_ | refine ev_bd0 rfl ?_ | ((with_reducible refine ev_pickB ?_ ?_) <;> intro h)) | refine ev_ret rfl ?_)
  all_goals exact ⟨by simp <;> omega, rfl⟩
theorem s_in (n lo hi : Int) : Ex (fun m => callF prg m 48 [iI n, iI lo, iI hi] []) (bB (decide (lo ≤ n ∧ n ≤ hi))) [] := by
  refine ev_is.1 (U48 (nl := 0) rfl ?_)
  unfold B48
  repeat' (first | ((with_reducible refine eG ?_); first | (with_reducible first | refine ev_gtt ?_ | refine ev_gff ?_ | refine ev_gtf ?_ | refine ev_gft ?_ | refine ev_gu ?_) | refine ev_bd rfl ?_ | refine ev_bd0 rfl ?_ | ((with_reducible refine ev_gB ?_ ?_) <;> intro h)) | ((with_reducible refine eB ?_); first | ((with_reducible first | refine ev_leq ?_ ?_ | refine ev_geq ?_ ?_) <;> intro h <;> try (exfalso; omega)) | refine ev_bd rfl ?_ | refine ev_bd0 rfl ?_) | ((with_reducible refine eD ?_); first | refine ev_bd rfl ?_ | refine ev_bd0 rfl ?_ | ((with_reducible refine ev_pickB ?_ ?_) <;> intro h)) | refine ev_ret rfl ?_)
  all_goals exact ⟨by simp <;> omega, rfl⟩
theorem s_isName (n : Int) : Ex (fun m => callF prg m 26 [iI n] []) (bB (decide (1 ≤ n ∧ n ≤ 4))) [] := by
  refine ev_is.1 (U26 (nl := 0) rfl ?_)
  unfold B26
  repeat' (first | ((with_reducible refine eC ?_); first | ((refine ev_callD (s_in ..) rfl rfl ?_ rfl rfl ?_ ?_); (focus first | exact .inl rfl | exact .inr rfl | (refine .inr ?_; simp [flagC, ownF, hasSl3, hasSl1, SO.hasSl, List.all_map, flatSV, SV.cells, Function.comp_def]; done)); (all_goals (intro h)); (all_goals (try (exfalso; first | omega | exact h rfl | exact h ⟨rfl, rfl, rfl⟩))))) | ((with_reducible refine eD ?_); first | refine ev_bd rfl ?_ | refine ev_bd0 rfl ?_) | refine ev_ret rfl ?_)
  all_goals exact ⟨by simp <;> omega, rfl⟩
theorem s_isVer (n : Int) : Ex (fun m => callF prg m 60 [iI n] []) (bB (decide (1 ≤ n ∧ n ≤ 5))) [] := by
  refine ev_is.1 (U60 (nl := 0) rfl ?_)
  unfold B60
  repeat' (first | ((with_reducible refine eC ?_); first | ((refine ev_callD (s_in ..) rfl rfl ?_ rfl rfl ?_ ?_); (focus first | exact .inl rfl | exact .inr rfl | (refine .inr ?_; simp [flagC, ownF, hasSl3, hasSl1, SO.hasSl, List.all_map, flatSV, SV.cells, Function.comp_def]; done)); (all_goals (intro h)); (all_goals (try (exfalso; first | omega | exact h rfl | exact h ⟨rfl, rfl, rfl⟩))))) | ((with_reducible refine eD ?_); first | refine ev_bd rfl ?_ | refine ev_bd0 rfl ?_) | refine ev_ret rfl ?_)
  all_goals exact ⟨by simp <;> omega, rfl⟩
def QYes : SV → List SO → Prop := fun x _ => x = .v (.bool true)
theorem ev_true {k : Nat} {args : List SV} (h : Ev (fun n => callF prg n k args []) QYes) : ∃ n los, callF prg n k args [] = some (.v (.bool true), los) := by
  obtain ⟨x, os, rfl, n0, h0⟩ := h
  exact ⟨n0, os, h0 n0 (Nat.le_refl _)⟩
structure RdOK (b : List Int) : Prop where
  by_ : ∀ i, 0 ≤ nth b i ∧ nth b i < 256
  len : b.length ≤ 2000
theorem s_pick {b : List Int} {p : Int} (hb : RdOK b) (hp : 0 ≤ p ∧ p < 1000000000) (n : Int) (hn : n < 1000000000) :
    ∃ x, ((1 ≤ n → 0 ≤ x ∧ x < n) ∧ (n < 1 → x = 0)) ∧ Ex (fun m => callF prg m 21 [.ptr 0 0, iI n] [rd b p]) (iI x) [rd b (p + 1)] := by
  have key : Ev (fun m => callF prg m 21 [.ptr 0 0, iI n] [rd b p]) (fun x os => ∃ v, x = iI v ∧ os = [rd b (p + 1)] ∧ (1 ≤ n → 0 ≤ v ∧ v < n) ∧ (n < 1 → v = 0)) := by
    obtain ⟨hby, hlen⟩ := hb
    refine U21 (nl := 1) rfl ?_
    unfold B21
    repeat' (first | ((with_reducible refine eG ?_); first | (with_reducible first | refine ev_gtt ?_ | refine ev_gff ?_ | refine ev_gtf ?_ | refine ev_gft ?_ | refine ev_gu ?_) | refine ev_bd rfl ?_ | refine ev_bd0 rfl ?_ | ((with_reducible refine ev_gB ?_ ?_) <;> intro h)) | ((with_reducible refine eB ?_); first | ((with_reducible first | refine ev_lss ?_ ?_ | refine ev_eql ?_ ?_) <;> intro h <;> try (exfalso; omega)) | ((with_reducible first | refine ev_add ?_ ?_ | refine ev_sub ?_ ?_ | refine ev_mul ?_ ?_); · omega) | ((with_reducible refine ev_quo ?_ ?_ ?_); (· omega); (· omega); intro x hx hx0 hx1) | ((with_reducible refine ev_rem ?_ ?_); (· omega); intro x hx hx0 hx1) | (((with_reducible refine ev_xor ?_ ?_ ?_); (· omega); (· omega); intro x hx0 hx1)) | refine ev_bd rfl ?_ | refine ev_bd0 rfl ?_) | ((with_reducible refine eL ?_); first | ((with_reducible refine ev_lenm ?_ ?_); · rfl) | refine ev_lenom rfl rfl ?_ | refine ev_lenoc rfl rfl rfl ?_ | refine ev_lenc rfl rfl ?_ | refine ev_leno rfl rfl ?_ | refine ev_slen rfl ?_ | refine ev_bd rfl ?_ | refine ev_bd0 rfl ?_) | ((with_reducible refine eI ?_); first | ((with_reducible refine ev_idx ?_ ?_ ?_); (· rfl); · omega) | (refine ev_idxo rfl rfl ?_ ?_; (· first | omega | (simp only [List.length_cons, List.length_nil, List.length_map, List.length_append]; omega))) | refine ev_bd rfl ?_ | refine ev_bd0 rfl ?_) | ((with_reducible refine eV ?_); first | (((with_reducible refine ev_conv8 ?_ ?_ ?_ ?_); (· rfl); (· rfl); (· exact hby _); intro hy0 hy1)) | ((with_reducible refine ev_conv64 ?_ ?_ ?_ ?_); (· rfl); (· rfl); · omega) | refine ev_bd rfl ?_ | refine ev_bd0 rfl ?_) | ((with_reducible refine eK ?_); first | (with_reducible first | refine ev_ct ?_ | refine ev_cf ?_) | ((with_reducible refine ev_cond ?_ ?_) <;> intro h)) | ((with_reducible refine eO ?_); first | refine ev_bd rfl ?_ | (refine ev_bdB rfl ?_ ?_ <;> intro h <;> try (exfalso; simp_all; done)) | refine ev_bd0 rfl ?_) | ((with_reducible refine eD ?_); first | refine ev_bd rfl ?_ | refine ev_bd0 rfl ?_ | ((with_reducible refine ev_pickB ?_ ?_) <;> intro h)) | refine ev_ret rfl ?_)
    all_goals first | exact ⟨_, rfl, rfl, by omega, by omega⟩ | trace_state
  obtain ⟨x, os, ⟨v, rfl, rfl, h1, h2⟩, he⟩ := key
  exact ⟨v, ⟨h1, h2⟩, he⟩
end Go.Proofs.Ytlnenahbffkbiaa

/- What the draws of keys and roots give. -/
namespace Go.Proofs.Ytlnenahbffkbiaa
open Go
set_option linter.unusedVariables false
set_option maxHeartbeats 4000000
set_option linter.unusedSimpArgs false
theorem s_l6Open (l : List Int) (hl : ∀ i, 0 ≤ nth l i ∧ nth l i < 256) : ∃ b, RdOK b ∧ Ex (fun m => callF prg m 17 [.sl 1 (l.map bI)] []) (.ptr 0 0) [rd b 0] := by
  have key : Ev (fun m => callF prg m 17 [.sl 1 (l.map bI)] []) (fun x os => ∃ b, RdOK b ∧ x = .ptr 0 0 ∧ os = [rd b 0]) := by
    (refine U17 (nl := 0) rfl ?_; unfold B17)
    repeat' (first | ((with_reducible refine eB ?_); first | ((with_reducible refine ev_gtr ?_ ?_) <;> intro h <;> try (exfalso; omega)) | refine ev_bd rfl ?_ | refine ev_bd0 rfl ?_) | ((with_reducible refine eL ?_); first | ((with_reducible refine ev_lenm ?_ ?_); · rfl) | refine ev_lenom rfl rfl ?_ | refine ev_lenoc rfl rfl rfl ?_ | refine ev_lenc rfl rfl ?_ | refine ev_leno rfl rfl ?_ | refine ev_slen rfl ?_ | refine ev_bd rfl ?_ | refine ev_bd0 rfl ?_) | ((with_reducible refine eS ?_); first | ((with_reducible first | refine ev_slh ?_ ?_ ?_ | refine ev_sll ?_ ?_ ?_); (· rfl); · omega) | ((first | refine ev_slvh rfl rfl ?_ ?_ | refine ev_slvl rfl rfl ?_ ?_); (· first | omega | (simp only [List.length_cons, List.length_nil, List.length_map, List.length_append]; omega))) | refine ev_bd rfl ?_ | refine ev_bd0 rfl ?_) | ((with_reducible refine eK ?_); first | (with_reducible first | refine ev_ct ?_ | refine ev_cf ?_) | ((with_reducible refine ev_cond ?_ ?_) <;> intro h)) | ((with_reducible refine eD ?_); first | refine ev_bd rfl ?_ | refine ev_bd0 rfl ?_) | ((with_reducible refine UJ17_3 ?_); (unfold JB17_3)) | refine ev_ret rfl ?_)
    · refine ⟨_, ⟨fun i => ?_, ?_⟩, rfl, rfl⟩
      · by_cases hi : i < (l.take (2000 : Int).toNat).length
        · have : nth (l.take (2000 : Int).toNat) i = nth l i := by
            unfold nth
            simp only [List.length_take] at hi
            simp only [List.getD_eq_getElem?_getD, List.getElem?_take]
            rw [if_pos (by omega)]
          rw [this]; exact hl i
        · have : nth (l.take (2000 : Int).toNat) i = 0 := by
            unfold nth
            rw [List.getD_eq_getElem?_getD, List.getElem?_eq_none (by omega)]; rfl
          rw [this]; omega
      · simp only [List.length_take]; omega
    · exact ⟨l, ⟨hl, by omega⟩, rfl, rfl⟩
  obtain ⟨x, os, ⟨b, hb, rfl, rfl⟩, he⟩ := key
  exact ⟨b, hb, he⟩
end Go.Proofs.Ytlnenahbffkbiaa

/- The evaluator S: more steps: storing into an element of an array of typed elements; nothing else. -/
namespace Go.Proofs.Ytlnenahbffkbiaa
open Go
set_option linter.unusedVariables false
set_option linter.unusedSimpArgs false
theorem deVw_pure {y : SV} {os os1 : List SO} {ys : List SV} (hp : pureCells y.cells os = some (ys, os1)) : ∃ z os0, deVw os y = some (z, os0) ∧ pureCells z.cells os0 = some (ys, os1) ∧ z.cells.length = y.cells.length := by
  cases y with
  | vw j lo hi =>
    simp only [SV.cells, pureCells] at hp
    split at hp
    · rename_i y0 os2 h0
      cases hp
      refine ⟨y0, os1, h0, ?_, ?_⟩ <;>
      · unfold pureCell at h0
        simp only at h0
        split at h0
        · split at h0
          · cases h0; rfl
          · cases h0
        · split at h0
          · cases h0; rfl
          · cases h0
        · cases h0
    · cases hp
  | _ => exact ⟨_, os, rfl, hp, rfl⟩
theorem ev_sto {α : Type} [Inhabited α] {f : α → SV} {l : List α} {a : α} {T : Tab} {os os1 os2 : List SO} {t j sz es i off m : Nat} {b : Bool} {y : SV} {ys : List SV} {F : Nat → SV → List SO → Out} {Q}
    (hti : (T.ti t).map (·.size) = some sz) (hsz : Nat.blt 0 sz = true) (hy : Nat.beq y.cells.length sz = true) (hp : pureCells y.cells os = some (ys, os1)) (hj1 : os1[j]? = some (.arr b es (l.map f)))
    (hd : (dcells (f (nth l i))).map List.length = some m) (hm : Nat.ble (off + sz) m = true) (hys : setElem (f (nth l i)) off ys = f a) (hi : i < l.length)
    (hn : nf (some (.undef, os1.set j (.arr b es ((l.set i a).map f)))) = some (.undef, os2)) (h2 : Ev (fun n => F n .undef os2) Q) :
    Ev (fun n => bd (storeO T os t (.ap j i off) (some y)) (F n)) Q := by
  obtain ⟨q, hq, hqs⟩ := Option.map_eq_some_iff.1 hti
  obtain ⟨yc, hyc, hyl⟩ := Option.map_eq_some_iff.1 hd
  have hsz' : 0 < sz := by simpa using hsz
  have hy' : y.cells.length = sz := Nat.eq_of_beq_eq_true hy
  have hm' : off + sz ≤ m := by simpa using hm
  refine ev_bdx (x := .undef) (os := os1.set j (.arr b es ((l.set i a).map f))) ?_ ?_
  · have hg : (l.map f)[i]? = some (f (nth l i)) := by
      rw [List.getElem?_map, get_nth hi]; rfl
    have h1 : (l.map f).set i (f a) = (l.set i a).map f := by rw [List.map_set]
    obtain ⟨z, os0, hz1, hz2, hz3⟩ := deVw_pure hp
    simp only [storeO, evN, hz1, storeS, hq, hqs, hz3.trans hy', if_true, hz2, hj1, hg, hyc]
    rw [if_pos ⟨by rw [hyl]; exact hm', hsz'⟩, hys, h1]
  · rw [nf_eq] at hn
    obtain ⟨-, rfl⟩ := Prod.mk.inj (Option.some.inj hn)
    exact h2
theorem ld_el {α : Type} [Inhabited α] {f : α → SV} {l : List α} {T : Tab} {os : List SO} {t j es i off : Nat} {b : Bool} (hj : os[j]? = some (.arr b es (l.map f))) (hi : i < l.length) :
    loadS T os t (.ap j i off) = loadS T os t (.el (f (nth l i)) off) := by
  have hg : (l.map f)[i]? = some (f (nth l i)) := by
    rw [List.getElem?_map, get_nth hi]; rfl
  simp only [loadS, placeCells, hj, hg]
theorem ev_ldm {α : Type} [Inhabited α] {f : α → SV} {l : List α} {T : Tab} {os os' : List SO} {t j es i off : Nat} {b : Bool} {x : SV} {F : Nat → SV → List SO → Out} {Q} (hj : os[j]? = some (.arr b es (l.map f))) (hi : i < l.length)
    (h : nfB (ret1 (loadS T os t (.el (f (nth l i)) off)) os) = some (x, os')) (h2 : Ev (fun n => F n x os') Q) : Ev (fun n => bd (ret1 (loadS T os t (.ap j i off)) os) (F n)) Q := by
  rw [nfB_eq] at h
  refine ev_bdx (x := x) (os := os') ?_ h2
  rw [ld_el hj hi, h]
theorem ev_ldmB {α : Type} [Inhabited α] {f : α → SV} {l : List α} {T : Tab} {os os' : List SO} {t j es i off : Nat} {b c : Bool} {F : Nat → SV → List SO → Out} {Q} (hj : os[j]? = some (.arr b es (l.map f))) (hi : i < l.length)
    (h : nf (ret1 (loadS T os t (.el (f (nth l i)) off)) os) = some (.v (.bool c), os')) (h1 : c = true → Ev (fun n => F n (.v (.bool true)) os') Q) (h2 : c = false → Ev (fun n => F n (.v (.bool false)) os') Q) : Ev (fun n => bd (ret1 (loadS T os t (.ap j i off)) os) (F n)) Q := by
  rw [nf_eq] at h
  cases c
  · refine ev_bdx (x := .v (.bool false)) (os := os') ?_ (h2 rfl)
    rw [ld_el hj hi, h]
  · refine ev_bdx (x := .v (.bool true)) (os := os') ?_ (h1 rfl)
    rw [ld_el hj hi, h]
theorem ev_lenfm {α : Type} {T : Tab} {t : Nat} {sz j : Nat} {f : α → SV} {l : List α} {os : List SO} {F : Nat → SV → List SO → Out} {Q} (hj : os[j]? = some (.frz sz (l.map f))) (hu : (slSize T t).isSome = true) (h2 : Ev (fun n => F n (iI (l.length : Int)) os) Q) :
    Ev (fun n => bd (lenO T t os (.osl j)) (F n)) Q := by
  obtain ⟨s, hs⟩ := Option.isSome_iff_exists.1 hu
  obtain ⟨e, q, hu, -⟩ := slSize_spec hs
  refine ev_bdx (x := iI (l.length : Int)) (os := os) ?_ h2
  simp [lenO, lenS, hu, elems, hj]
theorem ev_idxn {α : Type} [Inhabited α] {T : Tab} {t : Nat} {enc : α → SV} {l : List α} {sz i : Nat} {os : List SO} {F : Nat → SV → List SO → Out} {Q}
    (hu : slSize T t = some sz) (h0 : i < l.length) (h2 : Ev (fun n => F n (.el (enc (nth l i)) 0) os) Q) :
    Ev (fun n => bd (ret1 (indexAddrS T os t (.sl sz (l.map enc)) (.v (.int .i64 (i : Int)))) os) (F n)) Q :=
  ev_idx hu ⟨by omega, by omega⟩ h2
theorem ev_idxon {T : Tab} {os : List SO} {t j sz : Nat} {b : Bool} {l : List SV} {i : Nat} {F : Nat → SV → List SO → Out} {Q} (hj : os[j]? = some (.arr b sz l)) (hu : slSize T t = some sz) (h0 : i < l.length) (h2 : Ev (fun n => F n (.ap j i 0) os) Q) :
    Ev (fun n => bd (ret1 (indexAddrS T os t (.osl j) (.v (.int .i64 (i : Int)))) os) (F n)) Q :=
  ev_idxo hj hu ⟨by omega, by omega⟩ h2
theorem ev_idxf {α : Type} [Inhabited α] {T : Tab} {t : Nat} {enc : α → SV} {l : List α} {sz j : Nat} {i : Int} {os : List SO} {F : Nat → SV → List SO → Out} {Q}
    (hj : os[j]? = some (.frz sz (l.map enc))) (hu : slSize T t = some sz) (h0 : 0 ≤ i ∧ i < (l.length : Int)) (h2 : Ev (fun n => F n (.el (enc (nth l i.toNat)) 0) os) Q) :
    Ev (fun n => bd (ret1 (indexAddrS T os t (.osl j) (.v (.int .i64 i))) os) (F n)) Q := by
  obtain ⟨e, q, hu, hq, hs⟩ := slSize_spec hu
  refine ev_bdx (x := .el (enc (nth l i.toNat)) 0) (os := os) ?_ h2
  have hg : (l.map enc)[i.toNat]? = some (enc (nth l i.toNat)) := by
    rw [List.getElem?_map, get_nth (by omega)]; rfl
  simp [indexAddrS, hu, hq, hs, hj, h0.1, elS, hg, ret1]
theorem ev_idxfn {α : Type} [Inhabited α] {T : Tab} {t : Nat} {enc : α → SV} {l : List α} {sz j i : Nat} {os : List SO} {F : Nat → SV → List SO → Out} {Q}
    (hj : os[j]? = some (.frz sz (l.map enc))) (hu : slSize T t = some sz) (h0 : i < l.length) (h2 : Ev (fun n => F n (.el (enc (nth l i)) 0) os) Q) :
    Ev (fun n => bd (ret1 (indexAddrS T os t (.osl j) (.v (.int .i64 (i : Int)))) os) (F n)) Q :=
  ev_idxf hj hu ⟨by omega, by omega⟩ h2
theorem ev_callee {c : Nat → Cx} {os : List SO} {f : Nat} {caps args : List SV} {F : Nat → SV → List SO → Out} {Q} (h : Ev (fun n => bd (callS (c n) os f (args ++ caps)) (F n)) Q) : Ev (fun n => bd (calleeS (c n) os (.fn f caps) args) (F n)) Q := h
theorem Ev.of {A : Nat → Out} {x os} {Q : SV → List SO → Prop} (h : Ex A x os) (hq : Q x os) : Ev A Q := ⟨x, os, hq, h⟩
end Go.Proofs.Ytlnenahbffkbiaa

/- Roots and indexes: what is ok, and what is the same. -/
namespace Go.Proofs.Ytlnenahbffkbiaa
open Go
set_option linter.unusedVariables false
set_option linter.unusedSimpArgs false
set_option maxHeartbeats 4000000
structure TRoot where
  num : Int
  keys : List Int
  need : Int
  deriving Inhabited, DecidableEq
structure TMeta where
  name : Int
  ver : Int
  sum : Int
  deriving Inhabited, DecidableEq
structure TIndex where
  num : Int
  til : Int
  metas : List TMeta
  deriving Inhabited, DecidableEq
structure TTrust where
  root : TRoot
  has : Bool
  index : TIndex
  deriving Inhabited, DecidableEq
abbrev eMeta (m : TMeta) : SV := .ag [iI m.name, iI m.ver, iI m.sum]
def keyAt (l : List Int) (i : Nat) : Prop := 1 ≤ nth l i ∧ nth l i ≤ 6 ∧ (0 < i → nth l (i - 1) < nth l i)
instance (l : List Int) (i : Nat) : Decidable (keyAt l i) := by unfold keyAt; exact inferInstance
def keysOk (l : List Int) : Bool := decide (∀ i, i < l.length → keyAt l i)
def rootOk (num : Int) (keys : List Int) (need : Int) : Bool := decide (1 ≤ num ∧ num ≤ 9) && keysOk keys && decide (1 ≤ need ∧ need ≤ keys.length)
def mless (a b : TMeta) : Prop := a.name < b.name ∨ a.name = b.name ∧ a.ver < b.ver
instance (a b : TMeta) : Decidable (mless a b) := by unfold mless; exact inferInstance
def metaAt (l : List TMeta) (i : Nat) : Prop := (1 ≤ (nth l i).name ∧ (nth l i).name ≤ 4) ∧ (1 ≤ (nth l i).ver ∧ (nth l i).ver ≤ 5) ∧ (0 ≤ (nth l i).sum ∧ (nth l i).sum ≤ 9972) ∧ (0 < i → mless (nth l (i - 1)) (nth l i))
instance (l : List TMeta) (i : Nat) : Decidable (metaAt l i) := by unfold metaAt; exact inferInstance
def metasOk (l : List TMeta) : Bool := decide (∀ i, i < l.length → metaAt l i)
def indexOk (num til : Int) (ms : List TMeta) : Bool := decide (1 ≤ num ∧ num ≤ 30) && decide (0 ≤ til ∧ til ≤ 60) && decide (ms.length ≤ 8) && metasOk ms
theorem s_l3Less (n v m w : Int) : Ex (fun k => callF prg k 58 [iI n, iI v, iI m, iI w] []) (bB (decide (n < m ∨ n = m ∧ v < w))) [] := by
  refine ev_is.1 ?_
  (refine U58 (nl := 0) rfl ?_; unfold B58)
  repeat' (first | ((with_reducible refine eG ?_); first | (with_reducible first | refine ev_gtt ?_ | refine ev_gff ?_ | refine ev_gtf ?_ | refine ev_gft ?_ | refine ev_gu ?_) | refine ev_bd rfl ?_ | refine ev_bd0 rfl ?_ | ((with_reducible refine ev_gB ?_ ?_) <;> intro h)) | ((with_reducible refine eB ?_); first | ((with_reducible first | refine ev_lss ?_ ?_ | refine ev_eql ?_ ?_) <;> intro h <;> try (exfalso; omega)) | refine ev_bd rfl ?_ | refine ev_bd0 rfl ?_) | ((with_reducible refine eD ?_); first | refine ev_bd rfl ?_ | refine ev_bd0 rfl ?_ | ((with_reducible refine ev_pickB ?_ ?_) <;> intro h)) | refine ev_ret rfl ?_)
  all_goals (refine ⟨congrArg (fun b => SV.v (Value.bool b)) ?_, rfl⟩; first | (simp_all []; done) | (simp_all []; omega) | (simp [] at *; omega) | (simp []; omega) | grind [] | trace_state)
def trustOk (t : TTrust) : Bool := rootOk t.root.num t.root.keys t.root.need && (if t.has = true then indexOk t.index.num t.index.til t.index.metas else decide (t.index.num = 0 ∧ t.index.til = 0 ∧ t.index.metas = []))
abbrev aTrust (t : TTrust) : SV := .ag [iI t.root.num, .sl 1 (t.root.keys.map iI), iI t.root.need, bB t.has, iI t.index.num, iI t.index.til, .sl 3 (t.index.metas.map eMeta)]
abbrev rTrust (t : TTrust) : SV := .ag [iI t.root.num, .osl 0, iI t.root.need, bB t.has, iI t.index.num, iI t.index.til, .osl 1]
abbrev oTrust (t : TTrust) : List SO := [.arr false 1 (t.root.keys.map iI), .arr false 3 (t.index.metas.map eMeta)]
structure TLen (t : TTrust) : Prop where
  k : t.root.keys.length ≤ 2000000
  m : t.index.metas.length ≤ 2000000
end Go.Proofs.Ytlnenahbffkbiaa

/- Packages, as data; drawn packages. -/
namespace Go.Proofs.Ytlnenahbffkbiaa
open Go
set_option linter.unusedVariables false
set_option linter.unusedSimpArgs false
set_option maxHeartbeats 4000000
structure TFile where
  path : Int
  data : Int
  deriving Inhabited, DecidableEq
structure TDep where
  name : Int
  least : Int
  deriving Inhabited, DecidableEq
structure TPkg where
  name : Int
  ver : Int
  files : List TFile
  deps : List TDep
  deriving Inhabited, DecidableEq
abbrev eFile (f : TFile) : SV := .ag [iI f.path, iI f.data]
abbrev eDep (d : TDep) : SV := .ag [iI d.name, iI d.least]
abbrev ePkg (p : TPkg) : SV := .ag [iI p.name, iI p.ver, .sl 2 (p.files.map eFile), .sl 2 (p.deps.map eDep)]
abbrev rPkg (p : TPkg) (j k : Nat) : SV := .ag [iI p.name, iI p.ver, .osl j, .osl k]
abbrev oPkg (p : TPkg) : List SO := [.arr false 2 (p.files.map eFile), .arr false 2 (p.deps.map eDep)]
def depsIn (D : List TDep) : Prop := ∀ d, d ∈ D → 1 ≤ d.name ∧ d.name ≤ 4
theorem depsIn_nil : depsIn [] := fun d h => by cases h
theorem depsIn_app {D : List TDep} {d : TDep} (h : depsIn D) (hd : 1 ≤ d.name ∧ d.name ≤ 4) : depsIn (D ++ [d]) := by
  intro x hx
  rcases List.mem_append.1 hx with h1 | h1
  · exact h x h1
  · rw [List.mem_singleton.1 h1]; exact hd
def QPkg (b : List Int) (p name : Int) : SV → List SO → Prop := fun x os => ∃ (t : TPkg) (q : Int), x = rPkg t 1 2 ∧ os = [rd b q, .arr false 2 (t.files.map eFile), .arr false 2 (t.deps.map eDep)] ∧ t.files.length ≤ 3 ∧ t.deps.length ≤ 3 ∧ p ≤ q ∧ q ≤ p + 30 ∧ t.name = name ∧ depsIn t.deps
theorem s_l71Pkg_L9 {b : List Int} (hb : RdOK b) {p0 : Int} (hp0 : 0 ≤ p0 ∧ p0 < 700000000) (name ver : Int) (F : List TFile) (LF : List SV) (hLF : LF = F.map eFile) (hF : F.length ≤ 3) : ∀ i : Nat, i ≤ 4 → ∀ (p k : Int) (D : List TDep) (L : List SV) (c : Nat), k = i + 1 → L = D.map eDep → D.length ≤ 2 → p0 ≤ p → p ≤ p0 + 10 + 2 * i → depsIn D →
    Ev (fun n => G40_9 (callF prg n) (n + 1) 1 (n + 1 - c) [.ptr 0 0, iI name, .ptr 1 0, .ptr 2 0, iI k] [rd b p, .box [iI 0, iI 0, .osl 3, .osl 4], .box [iI name, iI ver, .osl 5, .osl 6], .arr false 2 [], .arr false 2 [], .arr false 2 LF, .arr false 2 L]) (QPkg b p0 name) := by
  refine up_ind ?_
  intro i hi ih p k D L c hk hL hD h1 h2 hdi
  have hLl : L.length = D.length := by rw [hL, List.length_map]
  (refine UG40_9 _ ?_; unfold GB40_9)
  repeat' (first | ((with_reducible refine eG ?_); first | (with_reducible first | refine ev_gtt ?_ | refine ev_gff ?_ | refine ev_gtf ?_ | refine ev_gft ?_ | refine ev_gu ?_) | refine ev_bd rfl ?_ | refine ev_bd0 rfl ?_ | ((with_reducible refine ev_gB ?_ ?_) <;> intro h)) | ((with_reducible refine eB ?_); first | ((with_reducible first | refine ev_lss ?_ ?_ | refine ev_leq ?_ ?_ | refine ev_eql ?_ ?_ | refine ev_neq ?_ ?_) <;> intro h <;> try (exfalso; omega)) | ((with_reducible refine ev_add ?_ ?_); · omega) | refine ev_bd rfl ?_ | refine ev_bd0 rfl ?_) | ((with_reducible refine eL ?_); first | ((with_reducible refine ev_lenm ?_ ?_); · rfl) | refine ev_lenom rfl rfl ?_ | refine ev_lenoc rfl rfl rfl ?_ | refine ev_lenc rfl rfl ?_ | refine ev_leno rfl rfl ?_ | refine ev_slen rfl ?_ | refine ev_bd rfl ?_ | refine ev_bd0 rfl ?_) | ((with_reducible refine eC ?_); first | ((refine ev_callN (s_pick hb (by omega) _ (by omega)) rfl rfl ?_ (fun _ => rfl) ?_); (· first | exact .inl rfl | exact .inr (fun _ => rfl)); (first | (have q0 := z3; clear q0; intro z4 hz4) | (have q0 := z2; clear q0; intro z3 hz3) | (have q0 := z; clear q0; intro z2 hz2) | (intro z hz)))) | ((with_reducible refine eA ?_); first | (refine ev_app rfl rfl rfl rfl rfl ?_ ?_; · first | decide | (simp only [List.length_append, List.length_cons, List.length_nil, List.length_map, List.length_take, List.length_drop]; omega))) | ((with_reducible refine eK ?_); first | (with_reducible first | refine ev_ct ?_ | refine ev_cf ?_) | ((with_reducible refine ev_cond ?_ ?_) <;> intro h)) | ((with_reducible refine eO ?_); first | refine ev_bd rfl ?_ | (refine ev_bdB rfl ?_ ?_ <;> intro h <;> try (exfalso; simp_all; done)) | refine ev_bd0 rfl ?_ | (refine ev_ldz rfl rfl rfl ?_ ?_ ?_; (· simp); (· first | omega | (simp only [List.length_cons, List.length_nil, List.length_map, List.length_append]; omega)); intro w)) | ((with_reducible refine eD ?_); first | refine ev_bd rfl ?_ | refine ev_bd0 rfl ?_ | ((with_reducible refine ev_pickB ?_ ?_) <;> intro h)) | ((with_reducible refine ev_dchk ?_ ?_); · intro _; rfl) | ((with_reducible refine eH ?_); first | refine ev_gcB rfl ?_) | ((with_reducible refine ih ?_ _ _ (D ++ [⟨k, 1 + z2⟩]) _ _ ?_ ?_ ?_ ?_ ?_ ?_) <;> (first | omega | assumption | ((refine depsIn_app hdi ?_; dsimp only; omega)) | (simp only [*, List.map_append, List.length_append, List.length_cons, List.length_nil, List.map_cons, List.map_nil]; done) | (simp_all; done) | (simp_all; omega))) | ((with_reducible refine ih ?_ _ _ D _ _ ?_ hL ?_ ?_ ?_ hdi) <;> (first | omega | assumption | (simp only [*, List.map_append, List.length_append, List.length_cons, List.length_nil, List.map_cons, List.map_nil]; done) | (simp_all; done) | (simp_all; omega))) | ((with_reducible refine UJ40_10 ?_); (unfold JB40_10)) | (with_reducible first | refine UL40_9 ?_ | refine VL40_9 ?_) | refine ev_ret rfl ?_)
  all_goals exact ⟨⟨name, ver, F, D⟩, _, rfl, by rw [hL, hLF], hF, by show D.length ≤ 3; omega, by omega, by omega, rfl, hdi⟩
theorem s_l71Pkg_L4 {b : List Int} (hb : RdOK b) {p0 : Int} (hp0 : 0 ≤ p0 ∧ p0 < 700000000) (name ver : Int) : ∀ i : Nat, i ≤ 2 → ∀ (p a k : Int) (F : List TFile) (L : List SV) (c : Nat), k ≤ 2 - i → 0 ≤ a → a ≤ 4 + 3 * i → L = F.map eFile → F.length ≤ i → p0 ≤ p → p ≤ p0 + 2 + 2 * i →
    Ev (fun n => G40_4 (callF prg n) (n + 1) 1 (n + 1 - c) [.ptr 0 0, iI name, .ptr 1 0, .ptr 2 0, iI a, iI k] [rd b p, .box [iI 0, iI 0, .osl 3, .osl 4], .box [iI name, iI ver, .osl 5, .osl 6], .arr false 2 [], .arr false 2 [], .arr false 2 L, .arr false 2 []]) (QPkg b p0 name) := by
  refine up_ind ?_
  intro i hi ih p a k F L c hk ha0 ha hL hF h1 h2
  have hLl : L.length = F.length := by rw [hL, List.length_map]
  (refine UG40_4 _ ?_; unfold GB40_4)
  repeat' (first | ((with_reducible refine eG ?_); first | (with_reducible first | refine ev_gtt ?_ | refine ev_gff ?_ | refine ev_gtf ?_ | refine ev_gft ?_ | refine ev_gu ?_) | refine ev_bd rfl ?_ | refine ev_bd0 rfl ?_ | ((with_reducible refine ev_gB ?_ ?_) <;> intro h)) | ((with_reducible refine eB ?_); first | ((with_reducible first | refine ev_lss ?_ ?_ | refine ev_gtr ?_ ?_) <;> intro h <;> try (exfalso; omega)) | ((with_reducible first | refine ev_add ?_ ?_ | refine ev_sub ?_ ?_); · omega) | refine ev_bd rfl ?_ | refine ev_bd0 rfl ?_) | ((with_reducible refine eC ?_); first | ((refine ev_callN (s_pick hb (by omega) _ (by omega)) rfl rfl ?_ (fun _ => rfl) ?_); (· first | exact .inl rfl | exact .inr (fun _ => rfl)); (first | (have q0 := z3; clear q0; intro z4 hz4) | (have q0 := z2; clear q0; intro z3 hz3) | (have q0 := z; clear q0; intro z2 hz2) | (intro z hz)))) | ((with_reducible refine eA ?_); first | (refine ev_app rfl rfl rfl rfl rfl ?_ ?_; · first | decide | (simp only [List.length_append, List.length_cons, List.length_nil, List.length_map, List.length_take, List.length_drop]; omega))) | ((with_reducible refine eK ?_); first | (with_reducible first | refine ev_ct ?_ | refine ev_cf ?_) | ((with_reducible refine ev_cond ?_ ?_) <;> intro h)) | ((with_reducible refine eO ?_); first | refine ev_bd rfl ?_ | (refine ev_bdB rfl ?_ ?_ <;> intro h <;> try (exfalso; simp_all; done)) | refine ev_bd0 rfl ?_ | (refine ev_ldz rfl rfl rfl ?_ ?_ ?_; (· simp); (· first | omega | (simp only [List.length_cons, List.length_nil, List.length_map, List.length_append]; omega)); intro w)) | ((with_reducible refine eD ?_); first | refine ev_bd rfl ?_ | refine ev_bd0 rfl ?_ | ((with_reducible refine ev_pickB ?_ ?_) <;> intro h)) | ((with_reducible refine ev_dchk ?_ ?_); · intro _; rfl) | ((with_reducible refine eH ?_); first | refine ev_gcB rfl ?_) | ((with_reducible refine ih ?_ _ _ _ (F ++ [⟨a, z⟩]) _ _ ?_ ?_ ?_ ?_ ?_ ?_ ?_) <;> (first | omega | assumption | (simp only [*, List.map_append, List.length_append, List.length_cons, List.length_nil, List.map_cons, List.map_nil]; done) | (simp_all; done) | (simp_all; omega))) | (with_reducible first | refine UL40_4 ?_ | refine VL40_4 ?_) | (with_reducible first | refine UL40_9 ?_ | refine VL40_9 ?_) | ((with_reducible refine s_l71Pkg_L9 hb hp0 name ver F _ hL ?_ 0 ?_ _ _ [] _ _ ?_ ?_ ?_ ?_ ?_ depsIn_nil) <;> (first | omega | assumption | (simp only [*, List.map_append, List.length_append, List.length_cons, List.length_nil, List.map_cons, List.map_nil]; done) | (simp_all; done) | (simp_all; omega))) | refine ev_ret rfl ?_)
theorem s_l71Pkg {b : List Int} (hb : RdOK b) {p : Int} (hp : 0 ≤ p ∧ p < 700000000) (name ver : Int) : Ev (fun m => callF prg m 40 [.ptr 0 0, iI name, iI ver] [rd b p]) (QPkg b p name) := by
  (refine U40 (nl := 1) rfl ?_; unfold B40)
  repeat' (first | ((with_reducible refine eC ?_); first | ((refine ev_callN (s_pick hb (by omega) _ (by omega)) rfl rfl ?_ (fun _ => rfl) ?_); (· first | exact .inl rfl | exact .inr (fun _ => rfl)); (first | (have q0 := z3; clear q0; intro z4 hz4) | (have q0 := z2; clear q0; intro z3 hz3) | (have q0 := z; clear q0; intro z2 hz2) | (intro z hz)))) | ((with_reducible refine eD ?_); first | refine ev_bd rfl ?_ | refine ev_bd0 rfl ?_) | ((with_reducible refine eH ?_); first | refine ev_gcB rfl ?_) | (with_reducible first | refine UL40_4 ?_ | refine VL40_4 ?_) | ((with_reducible refine s_l71Pkg_L4 hb hp name ver 0 ?_ _ _ _ [] _ _ ?_ ?_ ?_ ?_ ?_ ?_ ?_) <;> (first | omega | assumption | (simp only [*, List.map_append, List.length_append, List.length_cons, List.length_nil, List.map_cons, List.map_nil]; done) | (simp_all; done) | (simp_all; omega))) | refine ev_ret rfl ?_)
  all_goals trace_state
def pless (a b : TPkg) : Prop := a.name < b.name ∨ a.name = b.name ∧ a.ver < b.ver
instance (a b : TPkg) : Decidable (pless a b) := by unfold pless; exact inferInstance
def withP (s : List TPkg) (p : TPkg) : List TPkg := (s.filter fun x => decide (pless x p)) ++ [p] ++ (s.filter fun x => decide (pless p x))
theorem withP_len (s : List TPkg) (p : TPkg) : (withP s p).length ≤ s.length + 1 := by
  have key : ∀ s : List TPkg, (s.filter fun x => decide (pless x p)).length + (s.filter fun x => decide (pless p x)).length ≤ s.length := by
    intro s
    induction s with
    | nil => simp
    | cons x xs ih =>
      by_cases h1 : pless x p
      · have h2 : ¬ pless p x := by unfold pless at *; omega
        simp [h1, h2]; omega
      · by_cases h2 : pless p x
        · simp [h1, h2]; omega
        · simp [h1, h2]; omega
  have := key s
  simp only [withP, List.length_append, List.length_cons, List.length_nil]
  omega
def small (x : TPkg) : Prop := x.files.length ≤ 10 ∧ x.deps.length ≤ 10
def smalls (s : List TPkg) : Prop := ∀ x, x ∈ s → small x
theorem smalls_nil : smalls [] := fun x h => by cases h
theorem smalls_with {s : List TPkg} {p : TPkg} (hs : smalls s) (hp : small p) : smalls (withP s p) := by
  intro x hx
  simp only [withP, List.mem_append, List.mem_filter, List.mem_singleton] at hx
  rcases hx with (hx | rfl) | hx
  · exact hs x hx.1
  · exact hp
  · exact hs x hx.1
def tames (s : List TPkg) : Prop := ∀ x, x ∈ s → (1 ≤ x.name ∧ x.name ≤ 4) ∧ depsIn x.deps
theorem tames_nil : tames [] := fun x h => by cases h
theorem tames_with {s : List TPkg} {p : TPkg} (hs : tames s) (hp : (1 ≤ p.name ∧ p.name ≤ 4) ∧ depsIn p.deps) : tames (withP s p) := by
  intro x hx
  simp only [withP, List.mem_append, List.mem_filter, List.mem_singleton] at hx
  rcases hx with (hx | rfl) | hx
  · exact hs x hx.1
  · exact hp
  · exact hs x hx.1
theorem s_l12Find_L (s : List TPkg) (hs : s.length ≤ 2000000) (name ver : Int) : ∀ i, i ≤ s.length → (∀ j, j < i → ¬ ((nth s j).name = name ∧ (nth s j).ver = ver)) → ∀ (k : Int) (c : Nat), k = i →
    Ev (fun n => L41_2 (callF prg n) (n + 1) 0 (n + 1 - c) (.sl 4 (s.map ePkg)) (iI name) (iI ver) (iI k) []) (fun x os => ∃ z : Int, x = iI z ∧ os = [] ∧ ((z = -1 ∧ ∀ j, j < s.length → ¬ ((nth s j).name = name ∧ (nth s j).ver = ver)) ∨ (0 ≤ z ∧ z < s.length ∧ (nth s z.toNat).name = name ∧ (nth s z.toNat).ver = ver))) := by
  refine up_ind ?_
  intro i hi ih hp k c hk
  subst hk
  (refine UL41_2 ?_; unfold LB41_2)
  repeat' (first | ((with_reducible refine eG ?_); first | (with_reducible first | refine ev_gtt ?_ | refine ev_gff ?_ | refine ev_gtf ?_ | refine ev_gft ?_ | refine ev_gu ?_) | refine ev_bd rfl ?_ | refine ev_bd0 rfl ?_ | ((with_reducible refine ev_gB ?_ ?_) <;> intro h)) | ((with_reducible refine eB ?_); first | ((with_reducible first | refine ev_lss ?_ ?_ | refine ev_eql ?_ ?_) <;> intro h <;> try (exfalso; omega)) | ((with_reducible refine ev_add ?_ ?_); · omega) | refine ev_bd rfl ?_ | refine ev_bd0 rfl ?_) | ((with_reducible refine eL ?_); first | ((with_reducible refine ev_lenm ?_ ?_); · rfl) | refine ev_lenom rfl rfl ?_ | refine ev_lenoc rfl rfl rfl ?_ | refine ev_lenc rfl rfl ?_ | refine ev_leno rfl rfl ?_ | refine ev_slen rfl ?_ | refine ev_bd rfl ?_ | refine ev_bd0 rfl ?_) | ((with_reducible refine eI ?_); first | ((with_reducible refine ev_idx ?_ ?_ ?_); (· rfl); · omega) | (refine ev_idxo rfl rfl ?_ ?_; (· first | omega | (simp only [List.length_cons, List.length_nil, List.length_map, List.length_append]; omega))) | refine ev_bd rfl ?_ | refine ev_bd0 rfl ?_) | ((with_reducible refine eK ?_); first | (with_reducible first | refine ev_ct ?_ | refine ev_cf ?_) | ((with_reducible refine ev_cond ?_ ?_) <;> intro h)) | ((with_reducible refine eO ?_); first | refine ev_bd rfl ?_ | (refine ev_bdB rfl ?_ ?_ <;> intro h <;> try (exfalso; simp_all; done)) | refine ev_bd0 rfl ?_) | ((with_reducible refine eD ?_); first | refine ev_bd rfl ?_ | refine ev_bd0 rfl ?_ | ((with_reducible refine ev_pickB ?_ ?_) <;> intro h)) | ((with_reducible refine ih ?_ (all_step hp ?_) _ _ ?_) <;> (first | omega | assumption | (((try simp only [Int.toNat_natCast, tn_sub1, tn_add1] at *); omega)) | (simp only [*, List.map_append, List.length_append, List.length_cons, List.length_nil, List.map_cons, List.map_nil]; done) | (simp_all; done) | (simp_all; omega))) | refine ev_ret rfl ?_)
  all_goals first
    | exact ⟨_, rfl, rfl, .inr ⟨by omega, by omega, by omega, by omega⟩⟩
    | exact ⟨_, rfl, rfl, .inl ⟨rfl, fun j hj => hp j (by omega)⟩⟩
    | trace_state
theorem s_l12Find (s : List TPkg) (hs : s.length ≤ 2000000) (name ver : Int) : ∃ z : Int, ((z = -1 ∧ ∀ j, j < s.length → ¬ ((nth s j).name = name ∧ (nth s j).ver = ver)) ∨ (0 ≤ z ∧ z < s.length ∧ (nth s z.toNat).name = name ∧ (nth s z.toNat).ver = ver)) ∧
    Ex (fun m => callF prg m 41 [.sl 4 (s.map ePkg), iI name, iI ver] []) (iI z) [] := by
  have key : Ev (fun m => callF prg m 41 [.sl 4 (s.map ePkg), iI name, iI ver] []) (fun x os => ∃ z : Int, x = iI z ∧ os = [] ∧ ((z = -1 ∧ ∀ j, j < s.length → ¬ ((nth s j).name = name ∧ (nth s j).ver = ver)) ∨ (0 ≤ z ∧ z < s.length ∧ (nth s z.toNat).name = name ∧ (nth s z.toNat).ver = ver))) := by
    (refine U41 (nl := 0) rfl ?_; unfold B41)
    exact s_l12Find_L s hs name ver 0 (by omega) (fun j hj => by omega) 0 0 rfl
  obtain ⟨x, os, ⟨z, rfl, rfl, hz⟩, he⟩ := key
  exact ⟨z, hz, he⟩
theorem s_l3Less' (n v m w : Int) : Ex (fun k => callF prg k 58 [iI n, iI v, iI m, iI w] []) (bB (decide (n < m ∨ n = m ∧ v < w))) [] := by
  refine ev_is.1 ?_
  (refine U58 (nl := 0) rfl ?_; unfold B58)
  repeat' (first | ((with_reducible refine eG ?_); first | (with_reducible first | refine ev_gtt ?_ | refine ev_gff ?_ | refine ev_gtf ?_ | refine ev_gft ?_ | refine ev_gu ?_) | refine ev_bd rfl ?_ | refine ev_bd0 rfl ?_ | ((with_reducible refine ev_gB ?_ ?_) <;> intro h)) | ((with_reducible refine eB ?_); first | ((with_reducible first | refine ev_lss ?_ ?_ | refine ev_eql ?_ ?_) <;> intro h <;> try (exfalso; omega)) | refine ev_bd rfl ?_ | refine ev_bd0 rfl ?_) | ((with_reducible refine eD ?_); first | refine ev_bd rfl ?_ | refine ev_bd0 rfl ?_ | ((with_reducible refine ev_pickB ?_ ?_) <;> intro h)) | refine ev_ret rfl ?_)
  all_goals (refine ⟨congrArg (fun b => SV.v (Value.bool b)) ?_, rfl⟩; first | (simp_all []; done) | (simp_all []; omega) | (simp [] at *; omega) | (simp []; omega) | grind [] | trace_state)
theorem filt_step {α : Type} [Inhabited α] (P : α → Bool) {l : List α} {i : Nat} (hi : i < l.length) : (l.take (i + 1)).filter P = (l.take i).filter P ++ (if P (nth l i) = true then [nth l i] else []) := by
  have : l.take (i + 1) = l.take i ++ [nth l i] := by rw [List.take_add_one, get_nth hi]; rfl
  rw [this, List.filter_append]
  by_cases e : P (nth l i) = true <;> simp [e]
theorem filt_pos {α : Type} [Inhabited α] (P : α → Bool) {l : List α} {i : Nat} (hi : i < l.length) (h : P (nth l i) = true) : (l.take (i + 1)).filter P = (l.take i).filter P ++ [nth l i] := by
  rw [filt_step P hi, if_pos h]
theorem filt_neg {α : Type} [Inhabited α] (P : α → Bool) {l : List α} {i : Nat} (hi : i < l.length) (h : P (nth l i) = false) : (l.take (i + 1)).filter P = (l.take i).filter P := by
  rw [filt_step P hi, if_neg (by rw [h]; simp), List.append_nil]
theorem s_l12With_L9 (s : List TPkg) (p : TPkg) (hs : s.length ≤ 2000000) (A : List TPkg) (hA : A.length ≤ 2000001) : ∀ i, i ≤ s.length → ∀ (L : List SV) (k : Int) (c : Nat), k = i → L = (A ++ (s.take i).filter fun x => decide (pless p x)).map ePkg →
    Ev (fun n => G42_9 (callF prg n) (n + 1) 0 (n + 1 - c) [.sl 4 (s.map ePkg), .ptr 0 0, .osl 1, iI k] [.box [iI p.name, iI p.ver, .sl 2 (p.files.map eFile), .sl 2 (p.deps.map eDep)], .arr false 4 L])
      (Is (.osl 0) [.arr false 4 ((A ++ s.filter fun x => decide (pless p x)).map ePkg)]) := by
  refine up_ind ?_
  intro i hi ih L k c hk hL
  subst hk
  have hLl : L.length ≤ 5000000 := by
    rw [hL, List.length_map, List.length_append]
    have := List.length_filter_le (fun x => decide (pless p x)) (s.take i)
    have : (s.take i).length ≤ s.length := by simp; omega
    omega
  (refine UG42_9 _ ?_; unfold GB42_9)
  repeat' (first | ((with_reducible refine eB ?_); first | ((with_reducible refine ev_lss ?_ ?_) <;> intro h <;> try (exfalso; omega)) | ((with_reducible refine ev_add ?_ ?_); · omega) | refine ev_bd rfl ?_ | refine ev_bd0 rfl ?_) | ((with_reducible refine eL ?_); first | ((with_reducible refine ev_lenm ?_ ?_); · rfl) | refine ev_lenom rfl rfl ?_ | refine ev_lenoc rfl rfl rfl ?_ | refine ev_lenc rfl rfl ?_ | refine ev_leno rfl rfl ?_ | refine ev_slen rfl ?_ | refine ev_bd rfl ?_ | refine ev_bd0 rfl ?_) | ((with_reducible refine eI ?_); first | ((with_reducible refine ev_idx ?_ ?_ ?_); (· rfl); · omega) | (refine ev_idxo rfl rfl ?_ ?_; (· first | omega | (simp only [List.length_cons, List.length_nil, List.length_map, List.length_append]; omega))) | refine ev_bd rfl ?_ | refine ev_bd0 rfl ?_) | ((with_reducible refine eC ?_); first | ((refine ev_callD (s_l3Less' ..) rfl rfl ?_ rfl rfl ?_ ?_); (focus first | exact .inl rfl | exact .inr rfl | (refine .inr ?_; simp [flagC, ownF, hasSl3, hasSl1, SO.hasSl, List.all_map, flatSV, SV.cells, Function.comp_def]; done)); (all_goals (intro h)); (all_goals (try (exfalso; first | omega | exact h rfl | exact h ⟨rfl, rfl, rfl⟩))))) | ((with_reducible refine eA ?_); first | (refine ev_app rfl rfl rfl rfl rfl ?_ ?_; · first | decide | (simp only [List.length_append, List.length_cons, List.length_nil, List.length_map, List.length_take, List.length_drop]; omega))) | ((with_reducible refine eK ?_); first | (with_reducible first | refine ev_ct ?_ | refine ev_cf ?_) | ((with_reducible refine ev_cond ?_ ?_) <;> intro h)) | ((with_reducible refine eO ?_); first | refine ev_bd rfl ?_ | (refine ev_bdB rfl ?_ ?_ <;> intro h <;> try (exfalso; simp_all; done)) | refine ev_bd0 rfl ?_ | (refine ev_ldz rfl rfl rfl ?_ ?_ ?_; (· simp); (· first | omega | (simp only [List.length_cons, List.length_nil, List.length_map, List.length_append]; omega)); intro w)) | ((with_reducible refine eD ?_); first | refine ev_bd rfl ?_ | refine ev_bd0 rfl ?_) | ((with_reducible refine eH ?_); first | refine ev_gcB rfl ?_) | ((with_reducible refine UJ42_10 ?_); (unfold JB42_10)) | (with_reducible first | refine UL42_9 ?_ | refine VL42_9 ?_) | ((with_reducible refine ih ?_ _ _ _ ?_ ?_) <;> (first | omega | assumption | ((first | (rw [hL, filt_neg (fun x => decide (pless p x)) (l := s) (i := i) (by omega) (decide_eq_false h)]) | (rw [hL, filt_pos (fun x => decide (pless p x)) (l := s) (i := i) (by omega) (decide_eq_true h)]; simp only [List.map_append, List.append_assoc, List.map_cons, List.map_nil]; rfl))) | (simp only [*, List.map_append, List.length_append, List.length_cons, List.length_nil, List.map_cons, List.map_nil]; done) | (simp_all; done) | (simp_all; omega))) | refine ev_ret rfl ?_)
  exact ⟨rfl, by rw [hL, List.take_of_length_le (by omega)]⟩
theorem s_l12With_L3 (s : List TPkg) (p : TPkg) (hs : s.length ≤ 2000000) : ∀ i, i ≤ s.length → ∀ (L : List SV) (k : Int) (c : Nat), k = i → L = ((s.take i).filter fun x => decide (pless x p)).map ePkg →
    Ev (fun n => G42_3 (callF prg n) (n + 1) 0 (n + 1 - c) [.sl 4 (s.map ePkg), .ptr 0 0, .osl 1, iI k] [.box [iI p.name, iI p.ver, .sl 2 (p.files.map eFile), .sl 2 (p.deps.map eDep)], .arr false 4 L])
      (Is (.osl 0) [.arr false 4 ((withP s p).map ePkg)]) := by
  refine up_ind ?_
  intro i hi ih L k c hk hL
  subst hk
  have hFl : ((s.take i).filter fun x => decide (pless x p)).length ≤ 2000000 := by
    have := List.length_filter_le (fun x => decide (pless x p)) (s.take i)
    have : (s.take i).length ≤ s.length := by simp; omega
    omega
  have hLl : L.length ≤ 2000000 := by rw [hL, List.length_map]; exact hFl
  (refine UG42_3 _ ?_; unfold GB42_3)
  repeat' (first | ((with_reducible refine eB ?_); first | ((with_reducible refine ev_lss ?_ ?_) <;> intro h <;> try (exfalso; omega)) | ((with_reducible refine ev_add ?_ ?_); · omega) | refine ev_bd rfl ?_ | refine ev_bd0 rfl ?_) | ((with_reducible refine eL ?_); first | ((with_reducible refine ev_lenm ?_ ?_); · rfl) | refine ev_lenom rfl rfl ?_ | refine ev_lenoc rfl rfl rfl ?_ | refine ev_lenc rfl rfl ?_ | refine ev_leno rfl rfl ?_ | refine ev_slen rfl ?_ | refine ev_bd rfl ?_ | refine ev_bd0 rfl ?_) | ((with_reducible refine eI ?_); first | ((with_reducible refine ev_idx ?_ ?_ ?_); (· rfl); · omega) | (refine ev_idxo rfl rfl ?_ ?_; (· first | omega | (simp only [List.length_cons, List.length_nil, List.length_map, List.length_append]; omega))) | refine ev_bd rfl ?_ | refine ev_bd0 rfl ?_) | ((with_reducible refine eC ?_); first | ((refine ev_callD (s_l3Less' ..) rfl rfl ?_ rfl rfl ?_ ?_); (focus first | exact .inl rfl | exact .inr rfl | (refine .inr ?_; simp [flagC, ownF, hasSl3, hasSl1, SO.hasSl, List.all_map, flatSV, SV.cells, Function.comp_def]; done)); (all_goals (intro h)); (all_goals (try (exfalso; first | omega | exact h rfl | exact h ⟨rfl, rfl, rfl⟩))))) | ((with_reducible refine eA ?_); first | (refine ev_app rfl rfl rfl rfl rfl ?_ ?_; · first | decide | (simp only [List.length_append, List.length_cons, List.length_nil, List.length_map, List.length_take, List.length_drop]; omega))) | ((with_reducible refine eK ?_); first | (with_reducible first | refine ev_ct ?_ | refine ev_cf ?_) | ((with_reducible refine ev_cond ?_ ?_) <;> intro h)) | ((with_reducible refine eO ?_); first | refine ev_bd rfl ?_ | (refine ev_bdB rfl ?_ ?_ <;> intro h <;> try (exfalso; simp_all; done)) | refine ev_bd0 rfl ?_ | (refine ev_ldz rfl rfl rfl ?_ ?_ ?_; (· simp); (· first | omega | (simp only [List.length_cons, List.length_nil, List.length_map, List.length_append]; omega)); intro w)) | ((with_reducible refine eD ?_); first | refine ev_bd rfl ?_ | refine ev_bd0 rfl ?_) | ((with_reducible refine eH ?_); first | refine ev_gcB rfl ?_) | ((with_reducible refine UJ42_4 ?_); (unfold JB42_4)) | (with_reducible first | refine UL42_3 ?_ | refine VL42_3 ?_) | (with_reducible first | refine UL42_9 ?_ | refine VL42_9 ?_) | ((with_reducible refine ih ?_ _ _ _ ?_ ?_) <;> (first | omega | assumption | ((first | (rw [hL, filt_neg (fun x => decide (pless x p)) (l := s) (i := i) (by omega) (decide_eq_false h)]) | (rw [hL, filt_pos (fun x => decide (pless x p)) (l := s) (i := i) (by omega) (decide_eq_true h)]; simp only [List.map_append, List.append_assoc, List.map_cons, List.map_nil]; rfl))) | (simp only [*, List.map_append, List.length_append, List.length_cons, List.length_nil, List.map_cons, List.map_nil]; done) | (simp_all; done) | (simp_all; omega))) | refine ev_ret rfl ?_)
  refine s_l12With_L9 s p hs ((s.filter fun x => decide (pless x p)) ++ [p]) ?_ 0 (by omega) _ 0 _ rfl ?_
  · rw [List.length_append]
    have := List.length_filter_le (fun x => decide (pless x p)) s
    simp only [List.length_cons, List.length_nil]; omega
  · rw [hL, List.take_of_length_le (by omega)]
    simp only [List.take_zero, List.filter_nil, List.append_nil, List.map_append, List.map_cons, List.map_nil]
theorem s_l12With (s : List TPkg) (p : TPkg) (hs : s.length ≤ 2000000) : Ex (fun m => callF prg m 42 [.sl 4 (s.map ePkg), ePkg p] []) (.osl 0) [.arr false 4 ((withP s p).map ePkg)] := by
  refine ev_is.1 ?_
  (refine U42 (nl := 0) rfl ?_; unfold B42)
  repeat' (first | ((with_reducible refine eD ?_); first | refine ev_bd rfl ?_ | refine ev_bd0 rfl ?_) | ((with_reducible refine eH ?_); first | refine ev_gcB rfl ?_) | (with_reducible first | refine UL42_3 ?_ | refine VL42_3 ?_) | ( exact s_l12With_L3 s p hs 0 (by omega) _ 0 _ rfl (by simp)) | refine ev_ret rfl ?_)
def QPkgs (b : List Int) (p : Int) : SV → List SO → Prop := fun x os => ∃ (s : List TPkg) (q : Int), x = .osl 1 ∧ os = [rd b q, .arr false 4 (s.map ePkg)] ∧ s.length ≤ 8 ∧ smalls s ∧ p ≤ q ∧ q ≤ p + 300 ∧ tames s
theorem s_l71Pkgs_L {b : List Int} (hb : RdOK b) {p0 : Int} (hp0 : 0 ≤ p0 ∧ p0 < 600000000) : ∀ i : Nat, i ≤ 8 → ∀ (p k : Int) (s : List TPkg) (L : List SV) (c : Nat), k ≤ 8 - i → L = s.map ePkg → s.length ≤ i → smalls s → p0 ≤ p → p ≤ p0 + 1 + 35 * i → tames s →
    Ev (fun n => G20_3 (callF prg n) (n + 1) 1 (n + 1 - c) [.ptr 0 0, .osl 1, iI k] [rd b p, .arr false 4 L]) (QPkgs b p0) := by
  refine up_ind ?_
  intro i hi ih p k s L c hk hL hs hsm h1 h2 htm
  subst hL
  (refine UG20_3 _ ?_; unfold GB20_3)
  repeat' (first | ((with_reducible refine eB ?_); first | ((with_reducible first | refine ev_lss ?_ ?_ | refine ev_gtr ?_ ?_) <;> intro h <;> try (exfalso; omega)) | ((with_reducible first | refine ev_add ?_ ?_ | refine ev_sub ?_ ?_); · omega) | refine ev_bd rfl ?_ | refine ev_bd0 rfl ?_) | ((with_reducible refine eC ?_); first | ((refine ev_callN (s_pick hb (by omega) _ (by omega)) rfl rfl ?_ (fun _ => rfl) ?_); (· first | exact .inl rfl | exact .inr (fun _ => rfl)); (first | (have q0 := z3; clear q0; intro z4 hz4) | (have q0 := z2; clear q0; intro z3 hz3) | (have q0 := z; clear q0; intro z2 hz2) | (intro z hz))) | ((refine ev_callE (s_l71Pkg hb (by omega) _ _) rfl rfl ?_); ((rintro _ _ ⟨t, q, rfl, rfl, hf, hd, hq1, hq2, hnm, hdi⟩) <;> (first | (refine ev_post ?_ rfl ?_; (focus first | exact .inl rfl | exact .inr rfl | (refine .inr ?_; simp [flagC, ownF, hasSl3, hasSl1, SO.hasSl, List.all_map, flatSV, SV.cells, Function.comp_def]; done))) | (refine ev_postF ?_ rfl ?_; (focus first | rfl | (simp [flagC, ownF, hasSl3, hasSl1, SO.hasSl, List.all_map, flatSV, SV.cells, Function.comp_def]; done)))))) | ((refine ev_callN (s_l12Find _ (by omega) _ _) rfl rfl ?_ (fun _ => rfl) ?_); (· first | exact .inl rfl | exact .inr (fun _ => rfl)); (first | (have q0 := z3; clear q0; intro z4 hz4) | (have q0 := z2; clear q0; intro z3 hz3) | (have q0 := z; clear q0; intro z2 hz2) | (intro z hz))) | ((refine ev_callF (s_l12With s t (by omega)) rfl rfl ?_ rfl ?_); (· first | rfl | (simp [flagC, ownF, hasSl3, hasSl1, SO.hasSl, List.all_map, flatSV, SV.cells, Function.comp_def]; done)))) | ((with_reducible refine eK ?_); first | (with_reducible first | refine ev_ct ?_ | refine ev_cf ?_) | ((with_reducible refine ev_cond ?_ ?_) <;> intro h)) | ((with_reducible refine eO ?_); first | refine ev_bd rfl ?_ | (refine ev_bdB rfl ?_ ?_ <;> intro h <;> try (exfalso; simp_all; done)) | refine ev_bd0 rfl ?_) | ((with_reducible refine eD ?_); first | refine ev_bd rfl ?_ | refine ev_bd0 rfl ?_) | ((with_reducible refine eH ?_); first | refine ev_gcB rfl ?_) | ((with_reducible refine ih ?_ _ _ (withP s t) _ _ ?_ ?_ ?_ ?_ ?_ ?_ ?_) <;> (first | omega | assumption | ((first | (refine smalls_with hsm ?_; constructor <;> omega) | (refine tames_with htm ⟨?_, hdi⟩; omega) | ((have := withP_len s t); omega))) | (simp only [*, List.map_append, List.length_append, List.length_cons, List.length_nil, List.map_cons, List.map_nil]; done) | (simp_all; done) | (simp_all; omega))) | ((with_reducible refine ih ?_ _ _ s _ _ ?_ ?_ ?_ hsm ?_ ?_ htm) <;> (first | omega | assumption | (simp only [*, List.map_append, List.length_append, List.length_cons, List.length_nil, List.map_cons, List.map_nil]; done) | (simp_all; done) | (simp_all; omega))) | ((with_reducible refine UJ20_4 ?_); (unfold JB20_4)) | (with_reducible first | refine UL20_3 ?_ | refine VL20_3 ?_) | refine ev_ret rfl ?_)
  exact ⟨s, _, rfl, rfl, by omega, hsm, by omega, by omega, htm⟩
theorem s_l71Pkgs {b : List Int} (hb : RdOK b) {p : Int} (hp : 0 ≤ p ∧ p < 600000000) : Ev (fun m => callF prg m 20 [.ptr 0 0] [rd b p]) (QPkgs b p) := by
  (refine U20 (nl := 1) rfl ?_; unfold B20)
  repeat' (first | ((with_reducible refine eC ?_); first | ((refine ev_callN (s_pick hb (by omega) _ (by omega)) rfl rfl ?_ (fun _ => rfl) ?_); (· first | exact .inl rfl | exact .inr (fun _ => rfl)); (first | (have q0 := z3; clear q0; intro z4 hz4) | (have q0 := z2; clear q0; intro z3 hz3) | (have q0 := z; clear q0; intro z2 hz2) | (intro z hz)))) | ((with_reducible refine eD ?_); first | refine ev_bd rfl ?_ | refine ev_bd0 rfl ?_) | ((with_reducible refine eH ?_); first | refine ev_gcB rfl ?_) | (with_reducible first | refine UL20_3 ?_ | refine VL20_3 ?_) | ((with_reducible refine s_l71Pkgs_L hb hp 0 ?_ _ _ [] _ _ ?_ ?_ ?_ smalls_nil ?_ ?_ tames_nil) <;> (first | omega | assumption | (simp only [*, List.map_append, List.length_append, List.length_cons, List.length_nil, List.map_cons, List.map_nil]; done) | (simp_all; done) | (simp_all; omega))) | refine ev_ret rfl ?_)
end Go.Proofs.Ytlnenahbffkbiaa
