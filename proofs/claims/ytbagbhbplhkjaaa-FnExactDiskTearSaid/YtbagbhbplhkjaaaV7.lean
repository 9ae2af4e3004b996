/- The evaluator S and what it says of functions: Sb, V1, V3, V6, Vd, Tc, Ta, V2, Tf, V7. -/
import Derived.Test.YtbagbhbplhkjaaaSb1
import Derived.Test.YtbagbhbplhkjaaaProg
import Derived.KernelRfl
import Derived.Test.YtbagbhbplhkjaaaTg
import Derived.Test.YtbagbhbplhkjaaaTe
import Derived.Laws.Cover3
/- The evaluator S: the functions of this seat, read chunk by chunk (2). -/
namespace Go.Proofs.Ytbagbhbplhkjaaa
open Go
set_option linter.unusedVariables false
set_option maxRecDepth 100000
theorem E69 (n : Nat) (x0 : SV) (os : List SO) : callF prg (n + 1) 69 [x0] os = X69 (callF prg n) (n + 1) os.length x0 os := by kernel_rfl
theorem U69 {Q : SV → List SO → Prop} {x0 : SV} {os : List SO} {nl : Nat} (hnl : os.length = nl) (h : Ev (fun n => B69 (callF prg n) (n + 1) nl x0 os) Q) : Ev (fun n => callF prg n 69 [x0] os) Q := by subst hnl; exact ev_fun (fun n => (E69 n _ _).trans (X69_s _ _ _ _ _)) h
theorem L70_4_s (K : Nat → List SV → List SO → Out) (N nl : Nat) (m4 : Nat) (x1 x30 x31 x32 : SV) (os : List SO) : L70_4 K N nl (m4 + 1) x1 x30 x31 x32 os = gcB nl [x1, x30, x31, x32] os fun xs os => G70_4 K N nl m4 xs os := by kernel_rfl
theorem UL70_4 {nl c : Nat} {Q : SV → List SO → Prop} {x1 x30 x31 x32 : SV} {os : List SO} (h : Ev (fun n => gcB nl [x1, x30, x31, x32] os fun xs os => G70_4 (callF prg n) (n + 1) nl (n + 1 - (c + 1)) xs os) Q) : Ev (fun n => L70_4 (callF prg n) (n + 1) nl (n + 1 - c) x1 x30 x31 x32 os) Q := ev_loop (L := fun n m => L70_4 (callF prg n) (n + 1) nl m x1 x30 x31 x32 os) (fun n m => L70_4_s _ _ _ _ _ _ _ _ _) h
theorem VL70_4 {nl : Nat} {Q : SV → List SO → Prop} {x1 x30 x31 x32 : SV} {os : List SO} (h : Ev (fun n => gcB nl [x1, x30, x31, x32] os fun xs os => G70_4 (callF prg n) (n + 1) nl (n + 1 - 1) xs os) Q) : Ev (fun n => L70_4 (callF prg n) (n + 1) nl (n + 1) x1 x30 x31 x32 os) Q := UL70_4 (c := 0) h
theorem G70_4_s (K : Nat → List SV → List SO → Out) (N nl : Nat) (m4 : Nat) (x1 x30 x31 x32 : SV) (os : List SO) : G70_4 K N nl m4 [x1, x30, x31, x32] os = GB70_4 K N nl m4 x1 x30 x31 x32 os := by kernel_rfl
theorem UG70_4 {nl : Nat} {Q : SV → List SO → Prop} (m4 : Nat → Nat) {x1 x30 x31 x32 : SV} {os : List SO} (h : Ev (fun n => GB70_4 (callF prg n) (n + 1) nl (m4 n) x1 x30 x31 x32 os) Q) : Ev (fun n => G70_4 (callF prg n) (n + 1) nl (m4 n) [x1, x30, x31, x32] os) Q := ev_eq (fun n => G70_4_s _ _ _ _ _ _ _ _ _) h
theorem L70_10_s (K : Nat → List SV → List SO → Out) (N nl : Nat) (m10 : Nat) (x1 x65 x66 x67 : SV) (os : List SO) : L70_10 K N nl (m10 + 1) x1 x65 x66 x67 os = gcB nl [x1, x65, x66, x67] os fun xs os => G70_10 K N nl m10 xs os := by kernel_rfl
theorem UL70_10 {nl c : Nat} {Q : SV → List SO → Prop} {x1 x65 x66 x67 : SV} {os : List SO} (h : Ev (fun n => gcB nl [x1, x65, x66, x67] os fun xs os => G70_10 (callF prg n) (n + 1) nl (n + 1 - (c + 1)) xs os) Q) : Ev (fun n => L70_10 (callF prg n) (n + 1) nl (n + 1 - c) x1 x65 x66 x67 os) Q := ev_loop (L := fun n m => L70_10 (callF prg n) (n + 1) nl m x1 x65 x66 x67 os) (fun n m => L70_10_s _ _ _ _ _ _ _ _ _) h
theorem VL70_10 {nl : Nat} {Q : SV → List SO → Prop} {x1 x65 x66 x67 : SV} {os : List SO} (h : Ev (fun n => gcB nl [x1, x65, x66, x67] os fun xs os => G70_10 (callF prg n) (n + 1) nl (n + 1 - 1) xs os) Q) : Ev (fun n => L70_10 (callF prg n) (n + 1) nl (n + 1) x1 x65 x66 x67 os) Q := UL70_10 (c := 0) h
theorem G70_10_s (K : Nat → List SV → List SO → Out) (N nl : Nat) (m10 : Nat) (x1 x65 x66 x67 : SV) (os : List SO) : G70_10 K N nl m10 [x1, x65, x66, x67] os = GB70_10 K N nl m10 x1 x65 x66 x67 os := by kernel_rfl
theorem UG70_10 {nl : Nat} {Q : SV → List SO → Prop} (m10 : Nat → Nat) {x1 x65 x66 x67 : SV} {os : List SO} (h : Ev (fun n => GB70_10 (callF prg n) (n + 1) nl (m10 n) x1 x65 x66 x67 os) Q) : Ev (fun n => G70_10 (callF prg n) (n + 1) nl (m10 n) [x1, x65, x66, x67] os) Q := ev_eq (fun n => G70_10_s _ _ _ _ _ _ _ _ _) h
theorem X70_s (K : Nat → List SV → List SO → Out) (N nl : Nat) (x0 : SV) (os : List SO) : X70 K N nl x0 os = B70 K N nl x0 os := by kernel_rfl
theorem E70 (n : Nat) (x0 : SV) (os : List SO) : callF prg (n + 1) 70 [x0] os = X70 (callF prg n) (n + 1) os.length x0 os := by kernel_rfl
theorem U70 {Q : SV → List SO → Prop} {x0 : SV} {os : List SO} {nl : Nat} (hnl : os.length = nl) (h : Ev (fun n => B70 (callF prg n) (n + 1) nl x0 os) Q) : Ev (fun n => callF prg n 70 [x0] os) Q := by subst hnl; exact ev_fun (fun n => (E70 n _ _).trans (X70_s _ _ _ _ _)) h
theorem X71_s (K : Nat → List SV → List SO → Out) (N nl : Nat) (x0 x1 : SV) (os : List SO) : X71 K N nl x0 x1 os = B71 K N nl x0 x1 os := by kernel_rfl
theorem E71 (n : Nat) (x0 x1 : SV) (os : List SO) : callF prg (n + 1) 71 [x0, x1] os = X71 (callF prg n) (n + 1) os.length x0 x1 os := by kernel_rfl
theorem U71 {Q : SV → List SO → Prop} {x0 x1 : SV} {os : List SO} {nl : Nat} (hnl : os.length = nl) (h : Ev (fun n => B71 (callF prg n) (n + 1) nl x0 x1 os) Q) : Ev (fun n => callF prg n 71 [x0, x1] os) Q := by subst hnl; exact ev_fun (fun n => (E71 n _ _ _).trans (X71_s _ _ _ _ _ _)) h
theorem L72_2_s (K : Nat → List SV → List SO → Out) (N nl : Nat) (m2 : Nat) (x0 x1 x7 x8 : SV) (os : List SO) : L72_2 K N nl (m2 + 1) x0 x1 x7 x8 os = LB72_2 K N nl m2 x0 x1 x7 x8 os := by kernel_rfl
theorem UL72_2 {nl c : Nat} {Q : SV → List SO → Prop} {x0 x1 x7 x8 : SV} {os : List SO} (h : Ev (fun n => LB72_2 (callF prg n) (n + 1) nl (n + 1 - (c + 1)) x0 x1 x7 x8 os) Q) : Ev (fun n => L72_2 (callF prg n) (n + 1) nl (n + 1 - c) x0 x1 x7 x8 os) Q := ev_loop (L := fun n m => L72_2 (callF prg n) (n + 1) nl m x0 x1 x7 x8 os) (fun n m => L72_2_s _ _ _ _ _ _ _ _ _) h
theorem X72_s (K : Nat → List SV → List SO → Out) (N nl : Nat) (x0 x1 : SV) (os : List SO) : X72 K N nl x0 x1 os = B72 K N nl x0 x1 os := by kernel_rfl
theorem E72 (n : Nat) (x0 x1 : SV) (os : List SO) : callF prg (n + 1) 72 [x0, x1] os = X72 (callF prg n) (n + 1) os.length x0 x1 os := by kernel_rfl
theorem U72 {Q : SV → List SO → Prop} {x0 x1 : SV} {os : List SO} {nl : Nat} (hnl : os.length = nl) (h : Ev (fun n => B72 (callF prg n) (n + 1) nl x0 x1 os) Q) : Ev (fun n => callF prg n 72 [x0, x1] os) Q := by subst hnl; exact ev_fun (fun n => (E72 n _ _ _).trans (X72_s _ _ _ _ _ _)) h
theorem X73_s (K : Nat → List SV → List SO → Out) (N nl : Nat) (x0 x1 : SV) (os : List SO) : X73 K N nl x0 x1 os = B73 K N nl x0 x1 os := by kernel_rfl
theorem E73 (n : Nat) (x0 x1 : SV) (os : List SO) : callF prg (n + 1) 73 [x0, x1] os = X73 (callF prg n) (n + 1) os.length x0 x1 os := by kernel_rfl
theorem U73 {Q : SV → List SO → Prop} {x0 x1 : SV} {os : List SO} {nl : Nat} (hnl : os.length = nl) (h : Ev (fun n => B73 (callF prg n) (n + 1) nl x0 x1 os) Q) : Ev (fun n => callF prg n 73 [x0, x1] os) Q := by subst hnl; exact ev_fun (fun n => (E73 n _ _ _).trans (X73_s _ _ _ _ _ _)) h
theorem X74_s (K : Nat → List SV → List SO → Out) (N nl : Nat) (x0 x1 : SV) (os : List SO) : X74 K N nl x0 x1 os = B74 K N nl x0 x1 os := by kernel_rfl
theorem E74 (n : Nat) (x0 x1 : SV) (os : List SO) : callF prg (n + 1) 74 [x0, x1] os = X74 (callF prg n) (n + 1) os.length x0 x1 os := by kernel_rfl
theorem U74 {Q : SV → List SO → Prop} {x0 x1 : SV} {os : List SO} {nl : Nat} (hnl : os.length = nl) (h : Ev (fun n => B74 (callF prg n) (n + 1) nl x0 x1 os) Q) : Ev (fun n => callF prg n 74 [x0, x1] os) Q := by subst hnl; exact ev_fun (fun n => (E74 n _ _ _).trans (X74_s _ _ _ _ _ _)) h
theorem E75 (n : Nat) (xs : List SV) (os : List SO) : callF prg (n + 1) 75 xs os = cloneS 2 16 xs os := by kernel_rfl
theorem E76 (n : Nat) (xs : List SV) (os : List SO) : callF prg (n + 1) 76 xs os = cloneS 2 16 xs os := by kernel_rfl
theorem X77_s (K : Nat → List SV → List SO → Out) (N nl : Nat) (x0 x1 : SV) (os : List SO) : X77 K N nl x0 x1 os = B77 K N nl x0 x1 os := by kernel_rfl
theorem E77 (n : Nat) (x0 x1 : SV) (os : List SO) : callF prg (n + 1) 77 [x0, x1] os = X77 (callF prg n) (n + 1) os.length x0 x1 os := by kernel_rfl
theorem U77 {Q : SV → List SO → Prop} {x0 x1 : SV} {os : List SO} {nl : Nat} (hnl : os.length = nl) (h : Ev (fun n => B77 (callF prg n) (n + 1) nl x0 x1 os) Q) : Ev (fun n => callF prg n 77 [x0, x1] os) Q := by subst hnl; exact ev_fun (fun n => (E77 n _ _ _).trans (X77_s _ _ _ _ _ _)) h
theorem X78_s (K : Nat → List SV → List SO → Out) (N nl : Nat) (x0 x1 : SV) (os : List SO) : X78 K N nl x0 x1 os = B78 K N nl x0 x1 os := by kernel_rfl
theorem E78 (n : Nat) (x0 x1 : SV) (os : List SO) : callF prg (n + 1) 78 [x0, x1] os = X78 (callF prg n) (n + 1) os.length x0 x1 os := by kernel_rfl
theorem U78 {Q : SV → List SO → Prop} {x0 x1 : SV} {os : List SO} {nl : Nat} (hnl : os.length = nl) (h : Ev (fun n => B78 (callF prg n) (n + 1) nl x0 x1 os) Q) : Ev (fun n => callF prg n 78 [x0, x1] os) Q := by subst hnl; exact ev_fun (fun n => (E78 n _ _ _).trans (X78_s _ _ _ _ _ _)) h
theorem X79_s (K : Nat → List SV → List SO → Out) (N nl : Nat) (x0 : SV) (os : List SO) : X79 K N nl x0 os = B79 K N nl x0 os := by kernel_rfl
theorem E79 (n : Nat) (x0 : SV) (os : List SO) : callF prg (n + 1) 79 [x0] os = X79 (callF prg n) (n + 1) os.length x0 os := by kernel_rfl
theorem U79 {Q : SV → List SO → Prop} {x0 : SV} {os : List SO} {nl : Nat} (hnl : os.length = nl) (h : Ev (fun n => B79 (callF prg n) (n + 1) nl x0 os) Q) : Ev (fun n => callF prg n 79 [x0] os) Q := by subst hnl; exact ev_fun (fun n => (E79 n _ _).trans (X79_s _ _ _ _ _)) h
theorem X80_s (K : Nat → List SV → List SO → Out) (N nl : Nat) (x0 x1 x2 x3 : SV) (os : List SO) : X80 K N nl x0 x1 x2 x3 os = B80 K N nl x0 x1 x2 x3 os := by kernel_rfl
theorem E80 (n : Nat) (x0 x1 x2 x3 : SV) (os : List SO) : callF prg (n + 1) 80 [x0, x1, x2, x3] os = X80 (callF prg n) (n + 1) os.length x0 x1 x2 x3 os := by kernel_rfl
theorem U80 {Q : SV → List SO → Prop} {x0 x1 x2 x3 : SV} {os : List SO} {nl : Nat} (hnl : os.length = nl) (h : Ev (fun n => B80 (callF prg n) (n + 1) nl x0 x1 x2 x3 os) Q) : Ev (fun n => callF prg n 80 [x0, x1, x2, x3] os) Q := by subst hnl; exact ev_fun (fun n => (E80 n _ _ _ _ _).trans (X80_s _ _ _ _ _ _ _ _)) h
theorem X81_s (K : Nat → List SV → List SO → Out) (N nl : Nat) (x0 : SV) (os : List SO) : X81 K N nl x0 os = B81 K N nl x0 os := by kernel_rfl
theorem E81 (n : Nat) (x0 : SV) (os : List SO) : callF prg (n + 1) 81 [x0] os = X81 (callF prg n) (n + 1) os.length x0 os := by kernel_rfl
theorem U81 {Q : SV → List SO → Prop} {x0 : SV} {os : List SO} {nl : Nat} (hnl : os.length = nl) (h : Ev (fun n => B81 (callF prg n) (n + 1) nl x0 os) Q) : Ev (fun n => callF prg n 81 [x0] os) Q := by subst hnl; exact ev_fun (fun n => (E81 n _ _).trans (X81_s _ _ _ _ _)) h
theorem X82_s (K : Nat → List SV → List SO → Out) (N nl : Nat) (x0 : SV) (os : List SO) : X82 K N nl x0 os = B82 K N nl x0 os := by kernel_rfl
theorem E82 (n : Nat) (x0 : SV) (os : List SO) : callF prg (n + 1) 82 [x0] os = X82 (callF prg n) (n + 1) os.length x0 os := by kernel_rfl
theorem U82 {Q : SV → List SO → Prop} {x0 : SV} {os : List SO} {nl : Nat} (hnl : os.length = nl) (h : Ev (fun n => B82 (callF prg n) (n + 1) nl x0 os) Q) : Ev (fun n => callF prg n 82 [x0] os) Q := by subst hnl; exact ev_fun (fun n => (E82 n _ _).trans (X82_s _ _ _ _ _)) h
theorem L83_3_s (K : Nat → List SV → List SO → Out) (N nl : Nat) (m3 : Nat) (x3 x6 x7 x8 : SV) (os : List SO) : L83_3 K N nl (m3 + 1) x3 x6 x7 x8 os = LB83_3 K N nl m3 x3 x6 x7 x8 os := by kernel_rfl
theorem UL83_3 {nl c : Nat} {Q : SV → List SO → Prop} {x3 x6 x7 x8 : SV} {os : List SO} (h : Ev (fun n => LB83_3 (callF prg n) (n + 1) nl (n + 1 - (c + 1)) x3 x6 x7 x8 os) Q) : Ev (fun n => L83_3 (callF prg n) (n + 1) nl (n + 1 - c) x3 x6 x7 x8 os) Q := ev_loop (L := fun n m => L83_3 (callF prg n) (n + 1) nl m x3 x6 x7 x8 os) (fun n m => L83_3_s _ _ _ _ _ _ _ _ _) h
theorem VL83_3 {nl : Nat} {Q : SV → List SO → Prop} {x3 x6 x7 x8 : SV} {os : List SO} (h : Ev (fun n => LB83_3 (callF prg n) (n + 1) nl (n + 1 - 1) x3 x6 x7 x8 os) Q) : Ev (fun n => L83_3 (callF prg n) (n + 1) nl (n + 1) x3 x6 x7 x8 os) Q := UL83_3 (c := 0) h
theorem X83_s (K : Nat → List SV → List SO → Out) (N nl : Nat) (x0 : SV) (os : List SO) : X83 K N nl x0 os = B83 K N nl x0 os := by kernel_rfl
theorem E83 (n : Nat) (x0 : SV) (os : List SO) : callF prg (n + 1) 83 [x0] os = X83 (callF prg n) (n + 1) os.length x0 os := by kernel_rfl
theorem U83 {Q : SV → List SO → Prop} {x0 : SV} {os : List SO} {nl : Nat} (hnl : os.length = nl) (h : Ev (fun n => B83 (callF prg n) (n + 1) nl x0 os) Q) : Ev (fun n => callF prg n 83 [x0] os) Q := by subst hnl; exact ev_fun (fun n => (E83 n _ _).trans (X83_s _ _ _ _ _)) h
theorem X84_s (K : Nat → List SV → List SO → Out) (N nl : Nat) (x0 x1 : SV) (os : List SO) : X84 K N nl x0 x1 os = B84 K N nl x0 x1 os := by kernel_rfl
theorem E84 (n : Nat) (x0 x1 : SV) (os : List SO) : callF prg (n + 1) 84 [x0, x1] os = X84 (callF prg n) (n + 1) os.length x0 x1 os := by kernel_rfl
theorem U84 {Q : SV → List SO → Prop} {x0 x1 : SV} {os : List SO} {nl : Nat} (hnl : os.length = nl) (h : Ev (fun n => B84 (callF prg n) (n + 1) nl x0 x1 os) Q) : Ev (fun n => callF prg n 84 [x0, x1] os) Q := by subst hnl; exact ev_fun (fun n => (E84 n _ _ _).trans (X84_s _ _ _ _ _ _)) h
theorem L85_2_s (K : Nat → List SV → List SO → Out) (N nl : Nat) (m2 : Nat) (x0 x1 x7 x8 : SV) (os : List SO) : L85_2 K N nl (m2 + 1) x0 x1 x7 x8 os = LB85_2 K N nl m2 x0 x1 x7 x8 os := by kernel_rfl
theorem UL85_2 {nl c : Nat} {Q : SV → List SO → Prop} {x0 x1 x7 x8 : SV} {os : List SO} (h : Ev (fun n => LB85_2 (callF prg n) (n + 1) nl (n + 1 - (c + 1)) x0 x1 x7 x8 os) Q) : Ev (fun n => L85_2 (callF prg n) (n + 1) nl (n + 1 - c) x0 x1 x7 x8 os) Q := ev_loop (L := fun n m => L85_2 (callF prg n) (n + 1) nl m x0 x1 x7 x8 os) (fun n m => L85_2_s _ _ _ _ _ _ _ _ _) h
theorem X85_s (K : Nat → List SV → List SO → Out) (N nl : Nat) (x0 x1 : SV) (os : List SO) : X85 K N nl x0 x1 os = B85 K N nl x0 x1 os := by kernel_rfl
theorem E85 (n : Nat) (x0 x1 : SV) (os : List SO) : callF prg (n + 1) 85 [x0, x1] os = X85 (callF prg n) (n + 1) os.length x0 x1 os := by kernel_rfl
theorem U85 {Q : SV → List SO → Prop} {x0 x1 : SV} {os : List SO} {nl : Nat} (hnl : os.length = nl) (h : Ev (fun n => B85 (callF prg n) (n + 1) nl x0 x1 os) Q) : Ev (fun n => callF prg n 85 [x0, x1] os) Q := by subst hnl; exact ev_fun (fun n => (E85 n _ _ _).trans (X85_s _ _ _ _ _ _)) h
theorem L86_2_s (K : Nat → List SV → List SO → Out) (N nl : Nat) (m2 : Nat) (x0 x3 : SV) (os : List SO) : L86_2 K N nl (m2 + 1) x0 x3 os = LB86_2 K N nl m2 x0 x3 os := by kernel_rfl
theorem UL86_2 {nl c : Nat} {Q : SV → List SO → Prop} {x0 x3 : SV} {os : List SO} (h : Ev (fun n => LB86_2 (callF prg n) (n + 1) nl (n + 1 - (c + 1)) x0 x3 os) Q) : Ev (fun n => L86_2 (callF prg n) (n + 1) nl (n + 1 - c) x0 x3 os) Q := ev_loop (L := fun n m => L86_2 (callF prg n) (n + 1) nl m x0 x3 os) (fun n m => L86_2_s _ _ _ _ _ _ _) h
theorem X86_s (K : Nat → List SV → List SO → Out) (N nl : Nat) (x0 : SV) (os : List SO) : X86 K N nl x0 os = B86 K N nl x0 os := by kernel_rfl
theorem E86 (n : Nat) (x0 : SV) (os : List SO) : callF prg (n + 1) 86 [x0] os = X86 (callF prg n) (n + 1) os.length x0 os := by kernel_rfl
theorem U86 {Q : SV → List SO → Prop} {x0 : SV} {os : List SO} {nl : Nat} (hnl : os.length = nl) (h : Ev (fun n => B86 (callF prg n) (n + 1) nl x0 os) Q) : Ev (fun n => callF prg n 86 [x0] os) Q := by subst hnl; exact ev_fun (fun n => (E86 n _ _).trans (X86_s _ _ _ _ _)) h
theorem L87_2_s (K : Nat → List SV → List SO → Out) (N nl : Nat) (m2 : Nat) (x0 x1 x5 : SV) (os : List SO) : L87_2 K N nl (m2 + 1) x0 x1 x5 os = gcB nl [x0, x1, x5] os fun xs os => G87_2 K N nl m2 xs os := by kernel_rfl
theorem UL87_2 {nl c : Nat} {Q : SV → List SO → Prop} {x0 x1 x5 : SV} {os : List SO} (h : Ev (fun n => gcB nl [x0, x1, x5] os fun xs os => G87_2 (callF prg n) (n + 1) nl (n + 1 - (c + 1)) xs os) Q) : Ev (fun n => L87_2 (callF prg n) (n + 1) nl (n + 1 - c) x0 x1 x5 os) Q := ev_loop (L := fun n m => L87_2 (callF prg n) (n + 1) nl m x0 x1 x5 os) (fun n m => L87_2_s _ _ _ _ _ _ _ _) h
theorem VL87_2 {nl : Nat} {Q : SV → List SO → Prop} {x0 x1 x5 : SV} {os : List SO} (h : Ev (fun n => gcB nl [x0, x1, x5] os fun xs os => G87_2 (callF prg n) (n + 1) nl (n + 1 - 1) xs os) Q) : Ev (fun n => L87_2 (callF prg n) (n + 1) nl (n + 1) x0 x1 x5 os) Q := UL87_2 (c := 0) h
theorem G87_2_s (K : Nat → List SV → List SO → Out) (N nl : Nat) (m2 : Nat) (x0 x1 x5 : SV) (os : List SO) : G87_2 K N nl m2 [x0, x1, x5] os = GB87_2 K N nl m2 x0 x1 x5 os := by kernel_rfl
theorem UG87_2 {nl : Nat} {Q : SV → List SO → Prop} (m2 : Nat → Nat) {x0 x1 x5 : SV} {os : List SO} (h : Ev (fun n => GB87_2 (callF prg n) (n + 1) nl (m2 n) x0 x1 x5 os) Q) : Ev (fun n => G87_2 (callF prg n) (n + 1) nl (m2 n) [x0, x1, x5] os) Q := ev_eq (fun n => G87_2_s _ _ _ _ _ _ _ _) h
theorem X87_s (K : Nat → List SV → List SO → Out) (N nl : Nat) (x0 x1 : SV) (os : List SO) : X87 K N nl x0 x1 os = B87 K N nl x0 x1 os := by kernel_rfl
theorem E87 (n : Nat) (x0 x1 : SV) (os : List SO) : callF prg (n + 1) 87 [x0, x1] os = X87 (callF prg n) (n + 1) os.length x0 x1 os := by kernel_rfl
theorem U87 {Q : SV → List SO → Prop} {x0 x1 : SV} {os : List SO} {nl : Nat} (hnl : os.length = nl) (h : Ev (fun n => B87 (callF prg n) (n + 1) nl x0 x1 os) Q) : Ev (fun n => callF prg n 87 [x0, x1] os) Q := by subst hnl; exact ev_fun (fun n => (E87 n _ _ _).trans (X87_s _ _ _ _ _ _)) h
theorem X88_s (K : Nat → List SV → List SO → Out) (N nl : Nat) (x0 : SV) (os : List SO) : X88 K N nl x0 os = B88 K N nl x0 os := by kernel_rfl
theorem E88 (n : Nat) (x0 : SV) (os : List SO) : callF prg (n + 1) 88 [x0] os = X88 (callF prg n) (n + 1) os.length x0 os := by kernel_rfl
theorem U88 {Q : SV → List SO → Prop} {x0 : SV} {os : List SO} {nl : Nat} (hnl : os.length = nl) (h : Ev (fun n => B88 (callF prg n) (n + 1) nl x0 os) Q) : Ev (fun n => callF prg n 88 [x0] os) Q := by subst hnl; exact ev_fun (fun n => (E88 n _ _).trans (X88_s _ _ _ _ _)) h
end Go.Proofs.Ytbagbhbplhkjaaa

/- What the functions of the kit give: the range, the reader of a code. -/
namespace Go.Proofs.Ytbagbhbplhkjaaa
open Go
set_option linter.unusedVariables false
set_option linter.unusedSimpArgs false
theorem s_l6In (n lo hi : Int) : Ex (fun m => callF prg m 34 [iI n, iI lo, iI hi] []) (bB (decide (lo ≤ n ∧ n ≤ hi))) [] := by
  refine ev_is.1 (U34 (nl := 0) rfl ?_)
  unfold B34
  repeat' (first | ((with_reducible refine eG ?_); first | (with_reducible first | refine ev_gtt ?_ | refine ev_gff ?_ | refine ev_gtf ?_ | refine ev_gft ?_ | refine ev_gu ?_) | refine ev_bd rfl ?_ | refine ev_bd0 rfl ?_ | ((with_reducible refine ev_gB ?_ ?_) <;> intro h)) | ((with_reducible refine eB ?_); first | ((with_reducible first | refine ev_leq ?_ ?_ | refine ev_geq ?_ ?_) <;> intro h <;> try (exfalso; omega)) | refine ev_bd rfl ?_ | refine ev_bd0 rfl ?_) | ((with_reducible refine eD ?_); first | refine ev_bd rfl ?_ | refine ev_bd0 rfl ?_ | ((with_reducible refine ev_pickB ?_ ?_) <;> intro h)) | refine ev_ret rfl ?_)
  all_goals exact ⟨by simp <;> omega, rfl⟩
theorem s_in (n lo hi : Int) : Ex (fun m => callF prg m 39 [iI n, iI lo, iI hi] []) (bB (decide (lo ≤ n ∧ n ≤ hi))) [] := by
  refine ev_is.1 (U39 (nl := 0) rfl ?_)
  unfold B39
  repeat' (first | ((with_reducible refine eG ?_); first | (with_reducible first | refine ev_gtt ?_ | refine ev_gff ?_ | refine ev_gtf ?_ | refine ev_gft ?_ | refine ev_gu ?_) | refine ev_bd rfl ?_ | refine ev_bd0 rfl ?_ | ((with_reducible refine ev_gB ?_ ?_) <;> intro h)) | ((with_reducible refine eB ?_); first | ((with_reducible first | refine ev_leq ?_ ?_ | refine ev_geq ?_ ?_) <;> intro h <;> try (exfalso; omega)) | refine ev_bd rfl ?_ | refine ev_bd0 rfl ?_) | ((with_reducible refine eD ?_); first | refine ev_bd rfl ?_ | refine ev_bd0 rfl ?_ | ((with_reducible refine ev_pickB ?_ ?_) <;> intro h)) | refine ev_ret rfl ?_)
  all_goals exact ⟨by simp <;> omega, rfl⟩
theorem s_isName (n : Int) : Ex (fun m => callF prg m 81 [iI n] []) (bB (decide (1 ≤ n ∧ n ≤ 4))) [] := by
  refine ev_is.1 (U81 (nl := 0) rfl ?_)
  unfold B81
  repeat' (first | ((with_reducible refine eC ?_); first | ((refine ev_callD (s_in ..) rfl rfl ?_ rfl rfl ?_ ?_); (focus first | exact .inl rfl | exact .inr rfl | (refine .inr ?_; simp [flagC, ownF, hasSl3, hasSl1, SO.hasSl, List.all_map, flatSV, SV.cells, Function.comp_def]; done)); (all_goals (intro h)); (all_goals (try (exfalso; first | omega | exact h rfl | exact h ⟨rfl, rfl, rfl⟩))))) | ((with_reducible refine eD ?_); first | refine ev_bd rfl ?_ | refine ev_bd0 rfl ?_) | refine ev_ret rfl ?_)
  all_goals exact ⟨by simp <;> omega, rfl⟩
theorem s_isVer (n : Int) : Ex (fun m => callF prg m 82 [iI n] []) (bB (decide (1 ≤ n ∧ n ≤ 5))) [] := by
  refine ev_is.1 (U82 (nl := 0) rfl ?_)
  unfold B82
  repeat' (first | ((with_reducible refine eC ?_); first | ((refine ev_callD (s_in ..) rfl rfl ?_ rfl rfl ?_ ?_); (focus first | exact .inl rfl | exact .inr rfl | (refine .inr ?_; simp [flagC, ownF, hasSl3, hasSl1, SO.hasSl, List.all_map, flatSV, SV.cells, Function.comp_def]; done)); (all_goals (intro h)); (all_goals (try (exfalso; first | omega | exact h rfl | exact h ⟨rfl, rfl, rfl⟩))))) | ((with_reducible refine eD ?_); first | refine ev_bd rfl ?_ | refine ev_bd0 rfl ?_) | refine ev_ret rfl ?_)
  all_goals exact ⟨by simp <;> omega, rfl⟩
def QYes : SV → List SO → Prop := fun x _ => x = .v (.bool true)
structure RdOK (b : List Int) : Prop where
  by_ : ∀ i, 0 ≤ nth b i ∧ nth b i < 256
  len : b.length ≤ 2000
end Go.Proofs.Ytbagbhbplhkjaaa

/- Roots and indexes: what is ok, and what is the same. -/
namespace Go.Proofs.Ytbagbhbplhkjaaa
open Go
set_option linter.unusedVariables false
set_option linter.unusedSimpArgs false
set_option maxHeartbeats 4000000
structure TRoot where
  num : Int
  keys : List Int
  need : Int
  deriving Inhabited, DecidableEq
structure TMeta where
  name : Int
  ver : Int
  sum : Int
  deriving Inhabited, DecidableEq
structure TIndex where
  num : Int
  til : Int
  metas : List TMeta
  deriving Inhabited, DecidableEq
structure TTrust where
  root : TRoot
  has : Bool
  index : TIndex
  deriving Inhabited, DecidableEq
abbrev eMeta (m : TMeta) : SV := .ag [iI m.name, iI m.ver, iI m.sum]
def keyAt (l : List Int) (i : Nat) : Prop := 1 ≤ nth l i ∧ nth l i ≤ 6 ∧ (0 < i → nth l (i - 1) < nth l i)
instance (l : List Int) (i : Nat) : Decidable (keyAt l i) := by unfold keyAt; exact inferInstance
def keysOk (l : List Int) : Bool := decide (∀ i, i < l.length → keyAt l i)
def rootOk (num : Int) (keys : List Int) (need : Int) : Bool := decide (1 ≤ num ∧ num ≤ 9) && keysOk keys && decide (1 ≤ need ∧ need ≤ keys.length)
def mless (a b : TMeta) : Prop := a.name < b.name ∨ a.name = b.name ∧ a.ver < b.ver
instance (a b : TMeta) : Decidable (mless a b) := by unfold mless; exact inferInstance
def metaAt (l : List TMeta) (i : Nat) : Prop := (1 ≤ (nth l i).name ∧ (nth l i).name ≤ 4) ∧ (1 ≤ (nth l i).ver ∧ (nth l i).ver ≤ 5) ∧ (0 ≤ (nth l i).sum ∧ (nth l i).sum ≤ 9972) ∧ (0 < i → mless (nth l (i - 1)) (nth l i))
instance (l : List TMeta) (i : Nat) : Decidable (metaAt l i) := by unfold metaAt; exact inferInstance
def metasOk (l : List TMeta) : Bool := decide (∀ i, i < l.length → metaAt l i)
def indexOk (num til : Int) (ms : List TMeta) : Bool := decide (1 ≤ num ∧ num ≤ 30) && decide (0 ≤ til ∧ til ≤ 60) && decide (ms.length ≤ 8) && metasOk ms
theorem s_l3Less (n v m w : Int) : Ex (fun k => callF prg k 80 [iI n, iI v, iI m, iI w] []) (bB (decide (n < m ∨ n = m ∧ v < w))) [] := by
  refine ev_is.1 ?_
  (refine U80 (nl := 0) rfl ?_; unfold B80)
  repeat' (first | ((with_reducible refine eG ?_); first | (with_reducible first | refine ev_gtt ?_ | refine ev_gff ?_ | refine ev_gtf ?_ | refine ev_gft ?_ | refine ev_gu ?_) | refine ev_bd rfl ?_ | refine ev_bd0 rfl ?_ | ((with_reducible refine ev_gB ?_ ?_) <;> intro h)) | ((with_reducible refine eB ?_); first | ((with_reducible first | refine ev_lss ?_ ?_ | refine ev_eql ?_ ?_) <;> intro h <;> try (exfalso; omega)) | refine ev_bd rfl ?_ | refine ev_bd0 rfl ?_) | ((with_reducible refine eD ?_); first | refine ev_bd rfl ?_ | refine ev_bd0 rfl ?_ | ((with_reducible refine ev_pickB ?_ ?_) <;> intro h)) | refine ev_ret rfl ?_)
  all_goals (refine ⟨congrArg (fun b => SV.v (Value.bool b)) ?_, rfl⟩; first | (simp_all []; done) | (simp_all []; omega) | (simp [] at *; omega) | (simp []; omega) | grind [] | trace_state)
def trustOk (t : TTrust) : Bool := rootOk t.root.num t.root.keys t.root.need && (if t.has = true then indexOk t.index.num t.index.til t.index.metas else decide (t.index.num = 0 ∧ t.index.til = 0 ∧ t.index.metas = []))
abbrev aTrust (t : TTrust) : SV := .ag [iI t.root.num, .sl 1 (t.root.keys.map iI), iI t.root.need, bB t.has, iI t.index.num, iI t.index.til, .sl 3 (t.index.metas.map eMeta)]
abbrev rTrust (t : TTrust) : SV := .ag [iI t.root.num, .osl 0, iI t.root.need, bB t.has, iI t.index.num, iI t.index.til, .osl 1]
abbrev oTrust (t : TTrust) : List SO := [.arr false 1 (t.root.keys.map iI), .arr false 3 (t.index.metas.map eMeta)]
structure TLen (t : TTrust) : Prop where
  k : t.root.keys.length ≤ 2000000
  m : t.index.metas.length ≤ 2000000
theorem s_CloneInt (l : List Int) (h47 : l.length ≤ 17592186044416) : Ex (fun m => callF prg m 43 [.sl 1 (l.map iI)] []) (.osl 0) [.arr false 1 (l.map iI)] := by
  refine ⟨1, fun n hn => ?_⟩
  obtain ⟨n, rfl⟩ : ∃ m, n = m + 1 := ⟨n - 1, by omega⟩
  show callF prg (n + 1) _ _ _ = _
  rw [E43]
  simp only [cloneS, List.length_map]
  rw [if_pos ⟨.inr trivial, by omega, by omega⟩]
end Go.Proofs.Ytbagbhbplhkjaaa

/- Packages, as data; drawn packages. -/
namespace Go.Proofs.Ytbagbhbplhkjaaa
open Go
set_option linter.unusedVariables false
set_option linter.unusedSimpArgs false
set_option maxHeartbeats 4000000
structure TFile where
  path : Int
  data : Int
  deriving Inhabited, DecidableEq
structure TDep where
  name : Int
  least : Int
  deriving Inhabited, DecidableEq
structure TPkg where
  name : Int
  ver : Int
  files : List TFile
  deps : List TDep
  deriving Inhabited, DecidableEq
abbrev eFile (f : TFile) : SV := .ag [iI f.path, iI f.data]
abbrev eDep (d : TDep) : SV := .ag [iI d.name, iI d.least]
abbrev ePkg (p : TPkg) : SV := .ag [iI p.name, iI p.ver, .sl 2 (p.files.map eFile), .sl 2 (p.deps.map eDep)]
abbrev rPkg (p : TPkg) (j k : Nat) : SV := .ag [iI p.name, iI p.ver, .osl j, .osl k]
abbrev oPkg (p : TPkg) : List SO := [.arr false 2 (p.files.map eFile), .arr false 2 (p.deps.map eDep)]
def depsIn (D : List TDep) : Prop := ∀ d, d ∈ D → 1 ≤ d.name ∧ d.name ≤ 4
def pless (a b : TPkg) : Prop := a.name < b.name ∨ a.name = b.name ∧ a.ver < b.ver
instance (a b : TPkg) : Decidable (pless a b) := by unfold pless; exact inferInstance
def withP (s : List TPkg) (p : TPkg) : List TPkg := (s.filter fun x => decide (pless x p)) ++ [p] ++ (s.filter fun x => decide (pless p x))
def small (x : TPkg) : Prop := x.files.length ≤ 10 ∧ x.deps.length ≤ 10
def smalls (s : List TPkg) : Prop := ∀ x, x ∈ s → small x
theorem smalls_nil : smalls [] := fun x h => by cases h
def tames (s : List TPkg) : Prop := ∀ x, x ∈ s → (1 ≤ x.name ∧ x.name ≤ 4) ∧ depsIn x.deps
end Go.Proofs.Ytbagbhbplhkjaaa

/- Disks and steps, as data. -/
namespace Go.Proofs.Ytbagbhbplhkjaaa
open Go
set_option linter.unusedVariables false
structure TDisk where
  db : List TPkg
  files : List Int
  has : Bool
  jour : List TPkg
  deriving Inhabited, DecidableEq
structure TStep where
  kind : Int
  path : Int
  data : Int
  pkgs : List TPkg
  deriving Inhabited, DecidableEq
abbrev aDisk (d : TDisk) : SV := .ag [.sl 4 (d.db.map ePkg), .sl 1 (d.files.map iI), bB d.has, .sl 4 (d.jour.map ePkg)]
abbrev eStep (s : TStep) : SV := .ag [iI s.kind, iI s.path, iI s.data, .sl 4 (s.pkgs.map ePkg)]
def okInts (l : List Int) : Prop := l.length ≤ 9223372036854775807
def okPkg (p : TPkg) : Prop := p.files.length ≤ 9223372036854775807 ∧ p.deps.length ≤ 9223372036854775807
def okPkgs (l : List TPkg) : Prop := l.length ≤ 9223372036854775807 ∧ ∀ a, a ∈ l → okPkg a
def okRoot (r : TRoot) : Prop := r.keys.length ≤ 9223372036854775807
def okIndex (x : TIndex) : Prop := x.metas.length ≤ 9223372036854775807
def okTrust (t : TTrust) : Prop := okRoot t.root ∧ okIndex t.index
def okSigRoot (s : TRoot × List Int) : Prop := okRoot s.1 ∧ okInts s.2
def okSigIndex (s : TIndex × List Int) : Prop := okIndex s.1 ∧ okInts s.2
def okDisk (d : TDisk) : Prop := okPkgs d.db ∧ okInts d.files ∧ okPkgs d.jour
def okStep (s : TStep) : Prop := okPkgs s.pkgs
abbrev aSigRoot (s : TRoot × List Int) : SV := .ag [iI s.1.num, .sl 1 (s.1.keys.map iI), iI s.1.need, .sl 1 (s.2.map iI)]
abbrev aSigIndex (s : TIndex × List Int) : SV := .ag [iI s.1.num, iI s.1.til, .sl 3 (s.1.metas.map eMeta), .sl 1 (s.2.map iI)]
abbrev aRoot (r : TRoot) : SV := .ag [iI r.num, .sl 1 (r.keys.map iI), iI r.need]
abbrev aIndex (x : TIndex) : SV := .ag [iI x.num, iI x.til, .sl 3 (x.metas.map eMeta)]
end Go.Proofs.Ytbagbhbplhkjaaa

/- The evaluator S: slices.Clone, once for all types. -/
namespace Go.Proofs.Ytbagbhbplhkjaaa
open Go
set_option linter.unusedVariables false
set_option linter.unusedSimpArgs false
variable {P : Program} {T : Tab}
def cl0 (t : Nat) : Code := .region 0 #[{ dst := some 2, op := .assign (.const (.slice none 0 0)), type := t, pos := "slices.go:355", after := #[], guard := none }] false
def cl1 (t b : Nat) : Code := .region 1 #[{ dst := some 3, op := .move (.tmp 0), type := t, pos := "slices.go:357", after := #[], guard := none },
  { dst := some 4, op := .binOp .eql t (.tmp 3) (.const (.slice none 0 0)) t, type := b, pos := "slices.go:357", after := #[{ on := 0, ground := .data }], guard := none }] false
def cl2 (t : Nat) : Code := .region 2 #[{ dst := some 2, op := .assign (.const (.slice none 0 0)), type := t, pos := "slices.go:358", after := #[], guard := none }] false
def cl3 (t : Nat) : Code := .region 3 #[{ dst := some 5, op := .buildSlice t 0 #[], type := t, pos := "slices.go:362", after := #[], guard := none },
  { dst := some 6, op := .move (.tmp 0), type := t, pos := "slices.go:362", after := #[], guard := none },
  { dst := some 7, op := .call { callee := .builtin .append, args := #[.tmp 5, .tmp 6], argTypes := #[t, t] }, type := t, pos := "slices.go:362",
    after := #[{ on := 0, ground := .data }, { on := 1, ground := .data }], guard := none },
  { dst := some 2, op := .assign (.tmp 7), type := t, pos := "slices.go:362",
    after := #[{ on := 2, ground := .data }, { on := 2, ground := .chain }, { on := 0, ground := .phase }, { on := 1, ground := .phase }, { on := 2, ground := .phase }], guard := none }] false
def cloneC (t b : Nat) : Code := (cl0 t).seq (((cl1 t b).seq (.cond (.tmp 4) ((cl2 t).seq .ret) .skip)).seq ((cl3 t).seq .ret))
theorem wp_val {o : Oper} {a : Act} {w w' : World} {v : Value} {next : Act → World → Prop} {Q : Exit → Act → World → Prop} (h : (execOp a.eval o).run P w = .ok (.value v) w') (hn : next (a.put o.dst v) w') : o.wp P a w next Q := by
  unfold Oper.wp
  rw [h]
  exact hn
theorem nil_any {w : World} {B : Nat → Prop} {g : Nat → Gh} {s s' : Nat} {v : Value} (h : RepV w B g (.sl s []) v) : RepV w B g (.sl s' []) v := by
  generalize hx : SV.sl s [] = x at h
  cases h <;> cases hx
  · exact .sl0
  · exact .sl0
theorem clone_ok (hT : TabOk P T) {f t e b : Nat} {fn : Func} {i : TI} (hf : P.funcs[f]? = some fn) (hn : (fn.name == "runtime.NumGoroutine") = false) (hb : fn.body = some (cloneC t b)) (hr : fn.results = #[.tmp 2]) (hnt : fn.ntmps = 8)
    (hu : T.und t = some (.slice e)) (hi : T.ti e = some i) (hmix : P.follows .mixedOrders = true) : KOK1 P f (cloneS i.size i.bytes) := by
  intro args los los' r h
  refine ⟨⟨fn, _, hf, hn, hb⟩, ?_⟩
  unfold cloneS at h
  split at h
  rotate_left
  · cases h
  rename_i s l
  split at h
  rotate_left
  · cases h
  rename_i hc
  obtain ⟨hc1, hc2, hc3⟩ := hc
  cases h
  intro A L g vals w hL hm ha
  obtain ⟨v, vs', rfl, hv, h2⟩ := ha.uncons
  obtain rfl : vs' = [] := by have := h2.1; cases vs' <;> simp at this ⊢
  have hund := hT.slice t e hu
  have key : ∀ (a : Option Addr) (n c : Nat), v = .slice a n c → l.length = n → Calls P f [v].toArray w fun e w' => ∃ v g', e = .returned v ∧ Mem ⟨w.heap.size, A, L, w⟩ [.arr false i.size l] g' w' ∧ (∀ j, j < ([] : List SO).length → g j ≠ .no → g' j = g j) ∧
        RepV w' (Bk ⟨w.heap.size, A, L, w⟩ [.arr false i.size l] g' w') g' (.osl 0) v ∧ ([] : List SO).length ≤ [SO.arr false i.size l].length := by
    intro a n c hvn hln
    subst hvn
    refine calls_of_wp hf hb ?_
    simp only [cloneC, hnt]
    refine wp_seq (wp_region ?_)
    simp only [cl0, List.size_toArray, List.length_cons, List.length_nil, List.range, List.range.loop, wpOps, List.getElem?_toArray, List.getElem?_cons_zero, Region.wanted, if_true, Oper.wp, execOp, Oper.upon, Sem.run_pure]
    refine .inl ?_
    simp only [Exit.then]
    have e1 : ({ tmps := #[Value.slice a n c] ++ Array.replicate (8 - (0 + 1)) undef, defers := [] } : Act).put (some 2) (.slice none 0 0) = { tmps := #[.slice a n c, undef, .slice none 0 0, undef, undef, undef, undef, undef], defers := [] } := rfl
    have e0 : ({ tmps := #[Value.slice a n c] ++ Array.replicate (8 - (0 + 1)) undef, defers := [] } : Act).eval (Operand.const (Value.slice none 0 0)) = .slice none 0 0 := rfl
    have e2 : ([Value.slice a n c].toArray ++ Array.replicate (8 - [Value.slice a n c].toArray.size) undef) = #[Value.slice a n c] ++ Array.replicate (8 - (0 + 1)) undef := rfl
    rw [e0, e1]
    refine wp_seq (wp_seq (wp_region ?_))
    have hbin : (binOp .eql t (.slice a n c) (.slice none 0 0)).run P w = .ok (.bool a.isNone) w := by
      simp [binOp, run_equal_slice_nil w t e a n c hund]
    have hgd : (eqGuard .eql t (.tmp 3) (.const (.slice none 0 0)) (.slice a n c) (.slice none 0 0)).run P w = .ok () w := by
      simp [eqGuard, hund]
    refine .inl (wp_val (v := .slice a n c) (w' := w) (by simp only [List.getElem?_toArray, List.getElem_toArray, List.getElem_cons_zero, execOp, Sem.run_pure]; rfl) ?_)
    show wpOps P _ _ [1] { tmps := #[.slice a n c, undef, .slice none 0 0, .slice a n c, undef, undef, undef, undef], defers := [] } w
    refine .inl (wp_val (v := .bool a.isNone) (w' := w) ?_ ?_)
    · have ev3 : ({ tmps := #[.slice a n c, undef, .slice none 0 0, .slice a n c, undef, undef, undef, undef], defers := [] } : Act).eval (.tmp 3) = .slice a n c := rfl
      have evc : ({ tmps := #[.slice a n c, undef, .slice none 0 0, .slice a n c, undef, undef, undef, undef], defers := [] } : Act).eval (.const (.slice none 0 0)) = .slice none 0 0 := rfl
      show (execOp _ { dst := some 4, op := .binOp .eql t (.tmp 3) (.const (.slice none 0 0)) t, type := b, pos := "slices.go:357", after := #[{ on := 0, ground := .data }], guard := none }).run P w = _
      simp only [execOp, ev3, evc, Sem.run_bind, hgd, Result.andThen_ok, hbin, Sem.run_pure]
    show Code.wp P (Code.cond (Operand.tmp 4) ((cl2 t).seq Code.ret) Code.skip) _ { tmps := #[.slice a n c, undef, .slice none 0 0, .slice a n c, .bool a.isNone, undef, undef, undef], defers := [] } w
    refine wp_cond (t := a.isNone) rfl ?_
    cases a with
    | none =>
      refine wp_seq (wp_region (.inl (wp_val (v := .slice none 0 0) (w' := w) (by simp only [List.getElem?_toArray, List.getElem_toArray, List.getElem_cons_zero, execOp, Sem.run_pure]; rfl) ?_)))
      show Code.wp P Code.ret _ { tmps := #[.slice none n c, undef, .slice none 0 0, .slice none n c, .bool true, undef, undef, undef], defers := [] } w
      refine wp_ret ⟨rfl, .slice none 0 0, ?_, ?_⟩
      · simp [results, hr]
      · have hl0 : l = [] := by
          cases hv with
          | sl0 => rfl
        subst hl0
        obtain ⟨p1, p2, p3⟩ := push_nil hm i.size
        exact ⟨_, _, rfl, p1, fun j hj => by simp at hj, .osl0 p3, by simp⟩
    | some ad =>
      refine wp_skip ?_
      show Code.wp P ((cl3 t).seq Code.ret) _ { tmps := #[.slice (some ad) n c, undef, .slice none 0 0, .slice (some ad) n c, .bool false, undef, undef, undef], defers := [] } w
      let cx0 : Cx := ⟨T, fun _ => false, fun _ _ _ => none⟩
      have hK : KOK P cx0.K := fun f args los los' r h => by cases h
      have hinv : Inv ⟨w.heap.size, A, L, w⟩ g 0 8 [(0, .sl i.size l)] [] { tmps := #[.slice (some ad) n c, undef, .slice none 0 0, .slice (some ad) n c, .bool false, undef, undef, undef], defers := [] } w := by
        refine ⟨g, hm, fun t' => ?_, Nat.le_refl _, rfl, Nat.le_refl _, fun j hj => by omega⟩
        simp only [look]
        split
        · rename_i h0
          obtain rfl := Nat.eq_of_beq_eq_true h0
          rcases hc1 with rfl | rfl
          · exact nil_any hv
          · exact hv
        · exact .dead
      have hex : exec cx0 0 0 ⟨8, fun _ => ⟨false, []⟩, fun _ => none, fun _ => none⟩ ((cl3 t).seq .ret) [(0, .sl i.size l)] [] (kEnd T [] 0 [.tmp 2]) = some (.osl 0, [.arr false i.size l]) := by
        have hb1 : buildSliceS T [] t 0 [] = some (.osl 0, [.arr false i.size []]) := by simp [buildSliceS, hu, hi, pureL]
        have hb2 : appendS T [.arr false i.size []] t t (.osl 0) (.sl i.size l) = some (.osl 1, [.dead, .arr false i.size l]) := by
          have h2 : i.bytes * l.length ≤ 140737488355328 := hc2
          simp [appendS, hu, hi, elems, h2, hc3]
        have hb3 : retV T 0 [.dead, .arr false i.size l] (some [.osl 1]) = some (.osl 0, [.arr false i.size l]) := by
          simp [retV, fixVs, fixV, fixCell, reach, ids2, ids1, okKeep, nodupB, SO.ids, gcO, SO.ren, SO.own, SO.fine, ren2, ren1, ren0, place]
        have e0 : exec cx0 0 0 ⟨8, fun _ => ⟨false, []⟩, fun _ => none, fun _ => none⟩ ((cl3 t).seq .ret) [(0, .sl i.size l)] [] (kEnd T [] 0 [.tmp 2]) =
          Option.bind (buildSliceS T [] t 0 []) fun r1 => Option.bind (appendS T r1.2 t t r1.1 (.sl i.size l)) fun r2 => retV T 0 r2.2 (some [r2.1]) := rfl
        rw [e0, hb1]
        show (Option.bind (appendS T [.arr false i.size []] t t (.osl 0) (.sl i.size l)) fun r2 => retV T 0 r2.2 (some [r2.1])) = _
        rw [hb2]
        exact hb3
      refine wp_mono (exec_sound (c := cx0) (ops_ok hT hK) (draw_ok (ops_ok hT hK) hmix) gc_ok _ _ _ _ _ _ hinv hex) ?_
      intro e' a' w' hq
      obtain ⟨env, os, ⟨g1, m, hs, ht, hd, hl, h0⟩, hk⟩ := hq
      have fin : retS T [] 0 fn.results.toList env os = some (.osl 0, [.arr false i.size l]) → a'.defers = [] ∧ ∃ v, (results fn a'.tmps).run P w' = .ok v w' ∧
          ∃ v' g', Ending.returned v = .returned v' ∧ Mem ⟨w.heap.size, A, L, w⟩ [.arr false i.size l] g' w' ∧ (∀ j, j < ([] : List SO).length → g j ≠ .no → g' j = g j) ∧ RepV w' (Bk ⟨w.heap.size, A, L, w⟩ [.arr false i.size l] g' w') g' (.osl 0) v' ∧ ([] : List SO).length ≤ [SO.arr false i.size l].length := by
        intro hk
        obtain ⟨v, g', r1, r2, r3, r4, r5⟩ := ret_rep hT m hs hk
        exact ⟨hd, v, r1, v, g', rfl, r2, fun j hj => by simp at hj, r4, by simp⟩
      have hrl : fn.results.toList = [.tmp 2] := by rw [hr]
      cases e' with
      | normal => exact fin (by rw [hrl]; exact hk)
      | ret => exact fin (by rw [hrl]; exact hk)
      | exit id => simp [kEnd] at hk
      | goto l => exact hk.elim
      | panic ch => exact hk.elim
      | outgrown => exact hk.elim
  cases hv with
  | sl0 => exact key _ _ _ rfl rfl
  | sl h1 h2 h3 h4 h5 h6 => exact key _ _ _ rfl rfl
end Go.Proofs.Ytbagbhbplhkjaaa

/- The evaluator S: the tables of this seat are right (by the kernel). -/
namespace Go.Proofs.Ytbagbhbplhkjaaa
open Go
set_option maxRecDepth 100000
theorem tabR : TabOk Try.prog tab := tab_ok (by kernel_rfl) (by kernel_rfl) (by kernel_rfl)
def codesOk (P : Program) (fis : Nat → FnI) : Nat → List (Option Func) → Prop
  | _, [] => True
  | k, none :: l => codesOk P fis (k + 1) l
  | k, some fn :: l => (P.funcs[k]? = some fn ∧ (fn.name == "runtime.NumGoroutine") = false ∧ (fis k).nt ≤ fn.ntmps) ∧ codesOk P fis (k + 1) l
theorem codesOk_get {P : Program} {fis : Nat → FnI} : ∀ {l : List (Option Func)} {k : Nat}, codesOk P fis k l → ∀ (f : Nat) (fn : Func), l[f]? = some (some fn) → P.funcs[k + f]? = some fn ∧ (fn.name == "runtime.NumGoroutine") = false ∧ (fis (k + f)).nt ≤ fn.ntmps
  | [], _, _, f, fn, h => by simp at h
  | x :: l, k, hc, f, fn, h => by
    cases f with
    | zero =>
      simp at h; subst h
      exact hc.1
    | succ f =>
      have hl : codesOk P fis (k + 1) l := by
        cases x with
        | none => exact hc
        | some g => exact hc.2
      have := codesOk_get hl f fn (by simpa using h)
      rw [show k + (f + 1) = k + 1 + f by omega]; exact this
theorem cok3 : Try.prog.funcs[3]? = some Try.f3 ∧ (Try.f3.name == "runtime.NumGoroutine") = false ∧ (prg.fi 3).nt ≤ Try.f3.ntmps := ⟨Try.func3, by kernel_rfl, Nat.le_of_ble_eq_true (by kernel_rfl)⟩
theorem cok4 : Try.prog.funcs[4]? = some Try.f4 ∧ (Try.f4.name == "runtime.NumGoroutine") = false ∧ (prg.fi 4).nt ≤ Try.f4.ntmps := ⟨Try.func4, by kernel_rfl, Nat.le_of_ble_eq_true (by kernel_rfl)⟩
theorem cok5 : Try.prog.funcs[5]? = some Try.f5 ∧ (Try.f5.name == "runtime.NumGoroutine") = false ∧ (prg.fi 5).nt ≤ Try.f5.ntmps := ⟨Try.func5, by kernel_rfl, Nat.le_of_ble_eq_true (by kernel_rfl)⟩
theorem cok6 : Try.prog.funcs[6]? = some Try.f6 ∧ (Try.f6.name == "runtime.NumGoroutine") = false ∧ (prg.fi 6).nt ≤ Try.f6.ntmps := ⟨Try.func6, by kernel_rfl, Nat.le_of_ble_eq_true (by kernel_rfl)⟩
theorem cok7 : Try.prog.funcs[7]? = some Try.f7 ∧ (Try.f7.name == "runtime.NumGoroutine") = false ∧ (prg.fi 7).nt ≤ Try.f7.ntmps := ⟨Try.func7, by kernel_rfl, Nat.le_of_ble_eq_true (by kernel_rfl)⟩
theorem cok8 : Try.prog.funcs[8]? = some Try.f8 ∧ (Try.f8.name == "runtime.NumGoroutine") = false ∧ (prg.fi 8).nt ≤ Try.f8.ntmps := ⟨Try.func8, by kernel_rfl, Nat.le_of_ble_eq_true (by kernel_rfl)⟩
theorem cok9 : Try.prog.funcs[9]? = some Try.f9 ∧ (Try.f9.name == "runtime.NumGoroutine") = false ∧ (prg.fi 9).nt ≤ Try.f9.ntmps := ⟨Try.func9, by kernel_rfl, Nat.le_of_ble_eq_true (by kernel_rfl)⟩
theorem cok10 : Try.prog.funcs[10]? = some Try.f10 ∧ (Try.f10.name == "runtime.NumGoroutine") = false ∧ (prg.fi 10).nt ≤ Try.f10.ntmps := ⟨Try.func10, by kernel_rfl, Nat.le_of_ble_eq_true (by kernel_rfl)⟩
theorem cok11 : Try.prog.funcs[11]? = some Try.f11 ∧ (Try.f11.name == "runtime.NumGoroutine") = false ∧ (prg.fi 11).nt ≤ Try.f11.ntmps := ⟨Try.func11, by kernel_rfl, Nat.le_of_ble_eq_true (by kernel_rfl)⟩
theorem cok12 : Try.prog.funcs[12]? = some Try.f12 ∧ (Try.f12.name == "runtime.NumGoroutine") = false ∧ (prg.fi 12).nt ≤ Try.f12.ntmps := ⟨Try.func12, by kernel_rfl, Nat.le_of_ble_eq_true (by kernel_rfl)⟩
theorem cok13 : Try.prog.funcs[13]? = some Try.f13 ∧ (Try.f13.name == "runtime.NumGoroutine") = false ∧ (prg.fi 13).nt ≤ Try.f13.ntmps := ⟨Try.func13, by kernel_rfl, Nat.le_of_ble_eq_true (by kernel_rfl)⟩
theorem cok14 : Try.prog.funcs[14]? = some Try.f14 ∧ (Try.f14.name == "runtime.NumGoroutine") = false ∧ (prg.fi 14).nt ≤ Try.f14.ntmps := ⟨Try.func14, by kernel_rfl, Nat.le_of_ble_eq_true (by kernel_rfl)⟩
theorem cok15 : Try.prog.funcs[15]? = some Try.f15 ∧ (Try.f15.name == "runtime.NumGoroutine") = false ∧ (prg.fi 15).nt ≤ Try.f15.ntmps := ⟨Try.func15, by kernel_rfl, Nat.le_of_ble_eq_true (by kernel_rfl)⟩
theorem cok16 : Try.prog.funcs[16]? = some Try.f16 ∧ (Try.f16.name == "runtime.NumGoroutine") = false ∧ (prg.fi 16).nt ≤ Try.f16.ntmps := ⟨Try.func16, by kernel_rfl, Nat.le_of_ble_eq_true (by kernel_rfl)⟩
theorem cok17 : Try.prog.funcs[17]? = some Try.f17 ∧ (Try.f17.name == "runtime.NumGoroutine") = false ∧ (prg.fi 17).nt ≤ Try.f17.ntmps := ⟨Try.func17, by kernel_rfl, Nat.le_of_ble_eq_true (by kernel_rfl)⟩
theorem cok18 : Try.prog.funcs[18]? = some Try.f18 ∧ (Try.f18.name == "runtime.NumGoroutine") = false ∧ (prg.fi 18).nt ≤ Try.f18.ntmps := ⟨Try.func18, by kernel_rfl, Nat.le_of_ble_eq_true (by kernel_rfl)⟩
theorem cok19 : Try.prog.funcs[19]? = some Try.f19 ∧ (Try.f19.name == "runtime.NumGoroutine") = false ∧ (prg.fi 19).nt ≤ Try.f19.ntmps := ⟨Try.func19, by kernel_rfl, Nat.le_of_ble_eq_true (by kernel_rfl)⟩
theorem cok20 : Try.prog.funcs[20]? = some Try.f20 ∧ (Try.f20.name == "runtime.NumGoroutine") = false ∧ (prg.fi 20).nt ≤ Try.f20.ntmps := ⟨Try.func20, by kernel_rfl, Nat.le_of_ble_eq_true (by kernel_rfl)⟩
theorem cok21 : Try.prog.funcs[21]? = some Try.f21 ∧ (Try.f21.name == "runtime.NumGoroutine") = false ∧ (prg.fi 21).nt ≤ Try.f21.ntmps := ⟨Try.func21, by kernel_rfl, Nat.le_of_ble_eq_true (by kernel_rfl)⟩
theorem cok22 : Try.prog.funcs[22]? = some Try.f22 ∧ (Try.f22.name == "runtime.NumGoroutine") = false ∧ (prg.fi 22).nt ≤ Try.f22.ntmps := ⟨Try.func22, by kernel_rfl, Nat.le_of_ble_eq_true (by kernel_rfl)⟩
theorem cok23 : Try.prog.funcs[23]? = some Try.f23 ∧ (Try.f23.name == "runtime.NumGoroutine") = false ∧ (prg.fi 23).nt ≤ Try.f23.ntmps := ⟨Try.func23, by kernel_rfl, Nat.le_of_ble_eq_true (by kernel_rfl)⟩
theorem cok24 : Try.prog.funcs[24]? = some Try.f24 ∧ (Try.f24.name == "runtime.NumGoroutine") = false ∧ (prg.fi 24).nt ≤ Try.f24.ntmps := ⟨Try.func24, by kernel_rfl, Nat.le_of_ble_eq_true (by kernel_rfl)⟩
theorem cok25 : Try.prog.funcs[25]? = some Try.f25 ∧ (Try.f25.name == "runtime.NumGoroutine") = false ∧ (prg.fi 25).nt ≤ Try.f25.ntmps := ⟨Try.func25, by kernel_rfl, Nat.le_of_ble_eq_true (by kernel_rfl)⟩
theorem cok26 : Try.prog.funcs[26]? = some Try.f26 ∧ (Try.f26.name == "runtime.NumGoroutine") = false ∧ (prg.fi 26).nt ≤ Try.f26.ntmps := ⟨Try.func26, by kernel_rfl, Nat.le_of_ble_eq_true (by kernel_rfl)⟩
theorem cok27 : Try.prog.funcs[27]? = some Try.f27 ∧ (Try.f27.name == "runtime.NumGoroutine") = false ∧ (prg.fi 27).nt ≤ Try.f27.ntmps := ⟨Try.func27, by kernel_rfl, Nat.le_of_ble_eq_true (by kernel_rfl)⟩
theorem cok28 : Try.prog.funcs[28]? = some Try.f28 ∧ (Try.f28.name == "runtime.NumGoroutine") = false ∧ (prg.fi 28).nt ≤ Try.f28.ntmps := ⟨Try.func28, by kernel_rfl, Nat.le_of_ble_eq_true (by kernel_rfl)⟩
theorem cok29 : Try.prog.funcs[29]? = some Try.f29 ∧ (Try.f29.name == "runtime.NumGoroutine") = false ∧ (prg.fi 29).nt ≤ Try.f29.ntmps := ⟨Try.func29, by kernel_rfl, Nat.le_of_ble_eq_true (by kernel_rfl)⟩
theorem cok30 : Try.prog.funcs[30]? = some Try.f30 ∧ (Try.f30.name == "runtime.NumGoroutine") = false ∧ (prg.fi 30).nt ≤ Try.f30.ntmps := ⟨Try.func30, by kernel_rfl, Nat.le_of_ble_eq_true (by kernel_rfl)⟩
theorem cok31 : Try.prog.funcs[31]? = some Try.f31 ∧ (Try.f31.name == "runtime.NumGoroutine") = false ∧ (prg.fi 31).nt ≤ Try.f31.ntmps := ⟨Try.func31, by kernel_rfl, Nat.le_of_ble_eq_true (by kernel_rfl)⟩
theorem cok32 : Try.prog.funcs[32]? = some Try.f32 ∧ (Try.f32.name == "runtime.NumGoroutine") = false ∧ (prg.fi 32).nt ≤ Try.f32.ntmps := ⟨Try.func32, by kernel_rfl, Nat.le_of_ble_eq_true (by kernel_rfl)⟩
theorem cok33 : Try.prog.funcs[33]? = some Try.f33 ∧ (Try.f33.name == "runtime.NumGoroutine") = false ∧ (prg.fi 33).nt ≤ Try.f33.ntmps := ⟨Try.func33, by kernel_rfl, Nat.le_of_ble_eq_true (by kernel_rfl)⟩
theorem cok34 : Try.prog.funcs[34]? = some Try.f34 ∧ (Try.f34.name == "runtime.NumGoroutine") = false ∧ (prg.fi 34).nt ≤ Try.f34.ntmps := ⟨Try.func34, by kernel_rfl, Nat.le_of_ble_eq_true (by kernel_rfl)⟩
theorem cok35 : Try.prog.funcs[35]? = some Try.f35 ∧ (Try.f35.name == "runtime.NumGoroutine") = false ∧ (prg.fi 35).nt ≤ Try.f35.ntmps := ⟨Try.func35, by kernel_rfl, Nat.le_of_ble_eq_true (by kernel_rfl)⟩
theorem cok36 : Try.prog.funcs[36]? = some Try.f36 ∧ (Try.f36.name == "runtime.NumGoroutine") = false ∧ (prg.fi 36).nt ≤ Try.f36.ntmps := ⟨Try.func36, by kernel_rfl, Nat.le_of_ble_eq_true (by kernel_rfl)⟩
theorem cok37 : Try.prog.funcs[37]? = some Try.f37 ∧ (Try.f37.name == "runtime.NumGoroutine") = false ∧ (prg.fi 37).nt ≤ Try.f37.ntmps := ⟨Try.func37, by kernel_rfl, Nat.le_of_ble_eq_true (by kernel_rfl)⟩
theorem cok38 : Try.prog.funcs[38]? = some Try.f38 ∧ (Try.f38.name == "runtime.NumGoroutine") = false ∧ (prg.fi 38).nt ≤ Try.f38.ntmps := ⟨Try.func38, by kernel_rfl, Nat.le_of_ble_eq_true (by kernel_rfl)⟩
theorem cok39 : Try.prog.funcs[39]? = some Try.f39 ∧ (Try.f39.name == "runtime.NumGoroutine") = false ∧ (prg.fi 39).nt ≤ Try.f39.ntmps := ⟨Try.func39, by kernel_rfl, Nat.le_of_ble_eq_true (by kernel_rfl)⟩
theorem cok40 : Try.prog.funcs[40]? = some Try.f40 ∧ (Try.f40.name == "runtime.NumGoroutine") = false ∧ (prg.fi 40).nt ≤ Try.f40.ntmps := ⟨Try.func40, by kernel_rfl, Nat.le_of_ble_eq_true (by kernel_rfl)⟩
theorem cok41 : Try.prog.funcs[41]? = some Try.f41 ∧ (Try.f41.name == "runtime.NumGoroutine") = false ∧ (prg.fi 41).nt ≤ Try.f41.ntmps := ⟨Try.func41, by kernel_rfl, Nat.le_of_ble_eq_true (by kernel_rfl)⟩
theorem cok42 : Try.prog.funcs[42]? = some Try.f42 ∧ (Try.f42.name == "runtime.NumGoroutine") = false ∧ (prg.fi 42).nt ≤ Try.f42.ntmps := ⟨Try.func42, by kernel_rfl, Nat.le_of_ble_eq_true (by kernel_rfl)⟩
theorem cok43 : Try.prog.funcs[43]? = some Try.f43 ∧ (Try.f43.name == "runtime.NumGoroutine") = false ∧ (prg.fi 43).nt ≤ Try.f43.ntmps := ⟨Try.func43, by kernel_rfl, Nat.le_of_ble_eq_true (by kernel_rfl)⟩
theorem cok44 : Try.prog.funcs[44]? = some Try.f44 ∧ (Try.f44.name == "runtime.NumGoroutine") = false ∧ (prg.fi 44).nt ≤ Try.f44.ntmps := ⟨Try.func44, by kernel_rfl, Nat.le_of_ble_eq_true (by kernel_rfl)⟩
theorem cok45 : Try.prog.funcs[45]? = some Try.f45 ∧ (Try.f45.name == "runtime.NumGoroutine") = false ∧ (prg.fi 45).nt ≤ Try.f45.ntmps := ⟨Try.func45, by kernel_rfl, Nat.le_of_ble_eq_true (by kernel_rfl)⟩
theorem cok46 : Try.prog.funcs[46]? = some Try.f46 ∧ (Try.f46.name == "runtime.NumGoroutine") = false ∧ (prg.fi 46).nt ≤ Try.f46.ntmps := ⟨Try.func46, by kernel_rfl, Nat.le_of_ble_eq_true (by kernel_rfl)⟩
theorem cok47 : Try.prog.funcs[47]? = some Try.f47 ∧ (Try.f47.name == "runtime.NumGoroutine") = false ∧ (prg.fi 47).nt ≤ Try.f47.ntmps := ⟨Try.func47, by kernel_rfl, Nat.le_of_ble_eq_true (by kernel_rfl)⟩
theorem cok48 : Try.prog.funcs[48]? = some Try.f48 ∧ (Try.f48.name == "runtime.NumGoroutine") = false ∧ (prg.fi 48).nt ≤ Try.f48.ntmps := ⟨Try.func48, by kernel_rfl, Nat.le_of_ble_eq_true (by kernel_rfl)⟩
theorem cok49 : Try.prog.funcs[49]? = some Try.f49 ∧ (Try.f49.name == "runtime.NumGoroutine") = false ∧ (prg.fi 49).nt ≤ Try.f49.ntmps := ⟨Try.func49, by kernel_rfl, Nat.le_of_ble_eq_true (by kernel_rfl)⟩
theorem cok50 : Try.prog.funcs[50]? = some Try.f50 ∧ (Try.f50.name == "runtime.NumGoroutine") = false ∧ (prg.fi 50).nt ≤ Try.f50.ntmps := ⟨Try.func50, by kernel_rfl, Nat.le_of_ble_eq_true (by kernel_rfl)⟩
theorem cok51 : Try.prog.funcs[51]? = some Try.f51 ∧ (Try.f51.name == "runtime.NumGoroutine") = false ∧ (prg.fi 51).nt ≤ Try.f51.ntmps := ⟨Try.func51, by kernel_rfl, Nat.le_of_ble_eq_true (by kernel_rfl)⟩
theorem cok52 : Try.prog.funcs[52]? = some Try.f52 ∧ (Try.f52.name == "runtime.NumGoroutine") = false ∧ (prg.fi 52).nt ≤ Try.f52.ntmps := ⟨Try.func52, by kernel_rfl, Nat.le_of_ble_eq_true (by kernel_rfl)⟩
theorem cok53 : Try.prog.funcs[53]? = some Try.f53 ∧ (Try.f53.name == "runtime.NumGoroutine") = false ∧ (prg.fi 53).nt ≤ Try.f53.ntmps := ⟨Try.func53, by kernel_rfl, Nat.le_of_ble_eq_true (by kernel_rfl)⟩
theorem cok54 : Try.prog.funcs[54]? = some Try.f54 ∧ (Try.f54.name == "runtime.NumGoroutine") = false ∧ (prg.fi 54).nt ≤ Try.f54.ntmps := ⟨Try.func54, by kernel_rfl, Nat.le_of_ble_eq_true (by kernel_rfl)⟩
theorem cok55 : Try.prog.funcs[55]? = some Try.f55 ∧ (Try.f55.name == "runtime.NumGoroutine") = false ∧ (prg.fi 55).nt ≤ Try.f55.ntmps := ⟨Try.func55, by kernel_rfl, Nat.le_of_ble_eq_true (by kernel_rfl)⟩
theorem cok56 : Try.prog.funcs[56]? = some Try.f56 ∧ (Try.f56.name == "runtime.NumGoroutine") = false ∧ (prg.fi 56).nt ≤ Try.f56.ntmps := ⟨Try.func56, by kernel_rfl, Nat.le_of_ble_eq_true (by kernel_rfl)⟩
theorem cok57 : Try.prog.funcs[57]? = some Try.f57 ∧ (Try.f57.name == "runtime.NumGoroutine") = false ∧ (prg.fi 57).nt ≤ Try.f57.ntmps := ⟨Try.func57, by kernel_rfl, Nat.le_of_ble_eq_true (by kernel_rfl)⟩
theorem cok58 : Try.prog.funcs[58]? = some Try.f58 ∧ (Try.f58.name == "runtime.NumGoroutine") = false ∧ (prg.fi 58).nt ≤ Try.f58.ntmps := ⟨Try.func58, by kernel_rfl, Nat.le_of_ble_eq_true (by kernel_rfl)⟩
theorem cok59 : Try.prog.funcs[59]? = some Try.f59 ∧ (Try.f59.name == "runtime.NumGoroutine") = false ∧ (prg.fi 59).nt ≤ Try.f59.ntmps := ⟨Try.func59, by kernel_rfl, Nat.le_of_ble_eq_true (by kernel_rfl)⟩
theorem cok60 : Try.prog.funcs[60]? = some Try.f60 ∧ (Try.f60.name == "runtime.NumGoroutine") = false ∧ (prg.fi 60).nt ≤ Try.f60.ntmps := ⟨Try.func60, by kernel_rfl, Nat.le_of_ble_eq_true (by kernel_rfl)⟩
theorem cok61 : Try.prog.funcs[61]? = some Try.f61 ∧ (Try.f61.name == "runtime.NumGoroutine") = false ∧ (prg.fi 61).nt ≤ Try.f61.ntmps := ⟨Try.func61, by kernel_rfl, Nat.le_of_ble_eq_true (by kernel_rfl)⟩
theorem cok62 : Try.prog.funcs[62]? = some Try.f62 ∧ (Try.f62.name == "runtime.NumGoroutine") = false ∧ (prg.fi 62).nt ≤ Try.f62.ntmps := ⟨Try.func62, by kernel_rfl, Nat.le_of_ble_eq_true (by kernel_rfl)⟩
theorem cok63 : Try.prog.funcs[63]? = some Try.f63 ∧ (Try.f63.name == "runtime.NumGoroutine") = false ∧ (prg.fi 63).nt ≤ Try.f63.ntmps := ⟨Try.func63, by kernel_rfl, Nat.le_of_ble_eq_true (by kernel_rfl)⟩
theorem cok64 : Try.prog.funcs[64]? = some Try.f64 ∧ (Try.f64.name == "runtime.NumGoroutine") = false ∧ (prg.fi 64).nt ≤ Try.f64.ntmps := ⟨Try.func64, by kernel_rfl, Nat.le_of_ble_eq_true (by kernel_rfl)⟩
theorem cok65 : Try.prog.funcs[65]? = some Try.f65 ∧ (Try.f65.name == "runtime.NumGoroutine") = false ∧ (prg.fi 65).nt ≤ Try.f65.ntmps := ⟨Try.func65, by kernel_rfl, Nat.le_of_ble_eq_true (by kernel_rfl)⟩
theorem cok66 : Try.prog.funcs[66]? = some Try.f66 ∧ (Try.f66.name == "runtime.NumGoroutine") = false ∧ (prg.fi 66).nt ≤ Try.f66.ntmps := ⟨Try.func66, by kernel_rfl, Nat.le_of_ble_eq_true (by kernel_rfl)⟩
theorem cok67 : Try.prog.funcs[67]? = some Try.f67 ∧ (Try.f67.name == "runtime.NumGoroutine") = false ∧ (prg.fi 67).nt ≤ Try.f67.ntmps := ⟨Try.func67, by kernel_rfl, Nat.le_of_ble_eq_true (by kernel_rfl)⟩
theorem cok68 : Try.prog.funcs[68]? = some Try.f68 ∧ (Try.f68.name == "runtime.NumGoroutine") = false ∧ (prg.fi 68).nt ≤ Try.f68.ntmps := ⟨Try.func68, by kernel_rfl, Nat.le_of_ble_eq_true (by kernel_rfl)⟩
theorem cok69 : Try.prog.funcs[69]? = some Try.f69 ∧ (Try.f69.name == "runtime.NumGoroutine") = false ∧ (prg.fi 69).nt ≤ Try.f69.ntmps := ⟨Try.func69, by kernel_rfl, Nat.le_of_ble_eq_true (by kernel_rfl)⟩
theorem cok70 : Try.prog.funcs[70]? = some Try.f70 ∧ (Try.f70.name == "runtime.NumGoroutine") = false ∧ (prg.fi 70).nt ≤ Try.f70.ntmps := ⟨Try.func70, by kernel_rfl, Nat.le_of_ble_eq_true (by kernel_rfl)⟩
theorem cok71 : Try.prog.funcs[71]? = some Try.f71 ∧ (Try.f71.name == "runtime.NumGoroutine") = false ∧ (prg.fi 71).nt ≤ Try.f71.ntmps := ⟨Try.func71, by kernel_rfl, Nat.le_of_ble_eq_true (by kernel_rfl)⟩
theorem cok72 : Try.prog.funcs[72]? = some Try.f72 ∧ (Try.f72.name == "runtime.NumGoroutine") = false ∧ (prg.fi 72).nt ≤ Try.f72.ntmps := ⟨Try.func72, by kernel_rfl, Nat.le_of_ble_eq_true (by kernel_rfl)⟩
theorem cok73 : Try.prog.funcs[73]? = some Try.f73 ∧ (Try.f73.name == "runtime.NumGoroutine") = false ∧ (prg.fi 73).nt ≤ Try.f73.ntmps := ⟨Try.func73, by kernel_rfl, Nat.le_of_ble_eq_true (by kernel_rfl)⟩
theorem cok74 : Try.prog.funcs[74]? = some Try.f74 ∧ (Try.f74.name == "runtime.NumGoroutine") = false ∧ (prg.fi 74).nt ≤ Try.f74.ntmps := ⟨Try.func74, by kernel_rfl, Nat.le_of_ble_eq_true (by kernel_rfl)⟩
theorem cok75 : Try.prog.funcs[75]? = some Try.f75 ∧ (Try.f75.name == "runtime.NumGoroutine") = false ∧ (prg.fi 75).nt ≤ Try.f75.ntmps := ⟨Try.func75, by kernel_rfl, Nat.le_of_ble_eq_true (by kernel_rfl)⟩
theorem cok76 : Try.prog.funcs[76]? = some Try.f76 ∧ (Try.f76.name == "runtime.NumGoroutine") = false ∧ (prg.fi 76).nt ≤ Try.f76.ntmps := ⟨Try.func76, by kernel_rfl, Nat.le_of_ble_eq_true (by kernel_rfl)⟩
theorem cok77 : Try.prog.funcs[77]? = some Try.f77 ∧ (Try.f77.name == "runtime.NumGoroutine") = false ∧ (prg.fi 77).nt ≤ Try.f77.ntmps := ⟨Try.func77, by kernel_rfl, Nat.le_of_ble_eq_true (by kernel_rfl)⟩
theorem cok78 : Try.prog.funcs[78]? = some Try.f78 ∧ (Try.f78.name == "runtime.NumGoroutine") = false ∧ (prg.fi 78).nt ≤ Try.f78.ntmps := ⟨Try.func78, by kernel_rfl, Nat.le_of_ble_eq_true (by kernel_rfl)⟩
theorem cok79 : Try.prog.funcs[79]? = some Try.f79 ∧ (Try.f79.name == "runtime.NumGoroutine") = false ∧ (prg.fi 79).nt ≤ Try.f79.ntmps := ⟨Try.func79, by kernel_rfl, Nat.le_of_ble_eq_true (by kernel_rfl)⟩
theorem cok80 : Try.prog.funcs[80]? = some Try.f80 ∧ (Try.f80.name == "runtime.NumGoroutine") = false ∧ (prg.fi 80).nt ≤ Try.f80.ntmps := ⟨Try.func80, by kernel_rfl, Nat.le_of_ble_eq_true (by kernel_rfl)⟩
theorem cok81 : Try.prog.funcs[81]? = some Try.f81 ∧ (Try.f81.name == "runtime.NumGoroutine") = false ∧ (prg.fi 81).nt ≤ Try.f81.ntmps := ⟨Try.func81, by kernel_rfl, Nat.le_of_ble_eq_true (by kernel_rfl)⟩
theorem cok82 : Try.prog.funcs[82]? = some Try.f82 ∧ (Try.f82.name == "runtime.NumGoroutine") = false ∧ (prg.fi 82).nt ≤ Try.f82.ntmps := ⟨Try.func82, by kernel_rfl, Nat.le_of_ble_eq_true (by kernel_rfl)⟩
theorem cok83 : Try.prog.funcs[83]? = some Try.f83 ∧ (Try.f83.name == "runtime.NumGoroutine") = false ∧ (prg.fi 83).nt ≤ Try.f83.ntmps := ⟨Try.func83, by kernel_rfl, Nat.le_of_ble_eq_true (by kernel_rfl)⟩
theorem cok84 : Try.prog.funcs[84]? = some Try.f84 ∧ (Try.f84.name == "runtime.NumGoroutine") = false ∧ (prg.fi 84).nt ≤ Try.f84.ntmps := ⟨Try.func84, by kernel_rfl, Nat.le_of_ble_eq_true (by kernel_rfl)⟩
theorem cok85 : Try.prog.funcs[85]? = some Try.f85 ∧ (Try.f85.name == "runtime.NumGoroutine") = false ∧ (prg.fi 85).nt ≤ Try.f85.ntmps := ⟨Try.func85, by kernel_rfl, Nat.le_of_ble_eq_true (by kernel_rfl)⟩
theorem cok86 : Try.prog.funcs[86]? = some Try.f86 ∧ (Try.f86.name == "runtime.NumGoroutine") = false ∧ (prg.fi 86).nt ≤ Try.f86.ntmps := ⟨Try.func86, by kernel_rfl, Nat.le_of_ble_eq_true (by kernel_rfl)⟩
theorem cok87 : Try.prog.funcs[87]? = some Try.f87 ∧ (Try.f87.name == "runtime.NumGoroutine") = false ∧ (prg.fi 87).nt ≤ Try.f87.ntmps := ⟨Try.func87, by kernel_rfl, Nat.le_of_ble_eq_true (by kernel_rfl)⟩
theorem cok88 : Try.prog.funcs[88]? = some Try.f88 ∧ (Try.f88.name == "runtime.NumGoroutine") = false ∧ (prg.fi 88).nt ≤ Try.f88.ntmps := ⟨Try.func88, by kernel_rfl, Nat.le_of_ble_eq_true (by kernel_rfl)⟩
theorem codesR : codesOk Try.prog prg.fi 0 codeL := ⟨cok3, ⟨cok4, ⟨cok5, ⟨cok6, ⟨cok7, ⟨cok8, ⟨cok9, ⟨cok10, ⟨cok11, ⟨cok12, ⟨cok13, ⟨cok14, ⟨cok15, ⟨cok16, ⟨cok17, ⟨cok18, ⟨cok19, ⟨cok20, ⟨cok21, ⟨cok22, ⟨cok23, ⟨cok24, ⟨cok25, ⟨cok26, ⟨cok27, ⟨cok28, ⟨cok29, ⟨cok30, ⟨cok31, ⟨cok32, ⟨cok33, ⟨cok34, ⟨cok35, ⟨cok36, ⟨cok37, ⟨cok38, ⟨cok39, ⟨cok40, ⟨cok41, ⟨cok42, ⟨cok43, ⟨cok44, ⟨cok45, ⟨cok46, ⟨cok47, ⟨cok48, ⟨cok49, ⟨cok50, ⟨cok51, ⟨cok52, ⟨cok53, ⟨cok54, ⟨cok55, ⟨cok56, ⟨cok57, ⟨cok58, ⟨cok59, ⟨cok60, ⟨cok61, ⟨cok62, ⟨cok63, ⟨cok64, ⟨cok65, ⟨cok66, ⟨cok67, ⟨cok68, ⟨cok69, ⟨cok70, ⟨cok71, ⟨cok72, ⟨cok73, ⟨cok74, ⟨cok75, ⟨cok76, ⟨cok77, ⟨cok78, ⟨cok79, ⟨cok80, ⟨cok81, ⟨cok82, ⟨cok83, ⟨cok84, ⟨cok85, ⟨cok86, ⟨cok87, ⟨cok88, trivial⟩⟩⟩⟩⟩⟩⟩⟩⟩⟩⟩⟩⟩⟩⟩⟩⟩⟩⟩⟩⟩⟩⟩⟩⟩⟩⟩⟩⟩⟩⟩⟩⟩⟩⟩⟩⟩⟩⟩⟩⟩⟩⟩⟩⟩⟩⟩⟩⟩⟩⟩⟩⟩⟩⟩⟩⟩⟩⟩⟩⟩⟩⟩⟩⟩⟩⟩⟩⟩⟩⟩⟩⟩⟩⟩⟩⟩⟩⟩⟩⟩⟩⟩⟩⟩⟩
theorem prgR : PrgOK Try.prog prg where
  tab := tabR
  code := fun f fn h => by
    have h' : codeL[f]? = some (some fn) := by
      have h2 : (codeL[f]?).getD none = some fn := h
      cases hx : codeL[f]? with
      | none => rw [hx] at h2; cases h2
      | some x => rw [hx] at h2; exact congrArg some h2
    have := codesOk_get codesR f fn h'
    simpa using this
  prim := fun f q h => by
    have h' : primF f = some q := h
    unfold primF at h'
    split at h'
    · rename_i e; subst e; cases h'; exact clone_ok (t := 23) (e := 3) (b := 4) (i := ⟨1, 8, false, [.int .i64]⟩) tabR Try.func43 (by kernel_rfl) (by kernel_rfl) (by kernel_rfl) (by kernel_rfl) (by kernel_rfl) (by kernel_rfl) (by kernel_rfl)
    split at h'
    · rename_i e; subst e; cases h'; exact clone_ok (t := 66) (e := 84) (b := 4) (i := ⟨2, 16, true, [.int .i64, .int .i64]⟩) tabR Try.func75 (by kernel_rfl) (by kernel_rfl) (by kernel_rfl) (by kernel_rfl) (by kernel_rfl) (by kernel_rfl) (by kernel_rfl)
    split at h'
    · rename_i e; subst e; cases h'; exact clone_ok (t := 67) (e := 81) (b := 4) (i := ⟨2, 16, true, [.int .i64, .int .i64]⟩) tabR Try.func76 (by kernel_rfl) (by kernel_rfl) (by kernel_rfl) (by kernel_rfl) (by kernel_rfl) (by kernel_rfl) (by kernel_rfl)
    cases h'
  mix := by kernel_rfl
end Go.Proofs.Ytbagbhbplhkjaaa
/- What the draws of keys and roots give. -/
namespace Go.Proofs.Ytbagbhbplhkjaaa
open Go
set_option linter.unusedVariables false
set_option maxHeartbeats 4000000
set_option linter.unusedSimpArgs false
end Go.Proofs.Ytbagbhbplhkjaaa

/- The evaluator S: more steps: storing into an element of an array of typed elements; nothing else. -/
namespace Go.Proofs.Ytbagbhbplhkjaaa
open Go
set_option linter.unusedVariables false
set_option linter.unusedSimpArgs false
theorem deVw_pure {y : SV} {os os1 : List SO} {ys : List SV} (hp : pureCells y.cells os = some (ys, os1)) : ∃ z os0, deVw os y = some (z, os0) ∧ pureCells z.cells os0 = some (ys, os1) ∧ z.cells.length = y.cells.length := by
  cases y with
  | vw j lo hi =>
    simp only [SV.cells, pureCells] at hp
    split at hp
    · rename_i y0 os2 h0
      cases hp
      refine ⟨y0, os1, h0, ?_, ?_⟩ <;>
      · unfold pureCell at h0
        simp only at h0
        split at h0
        · split at h0
          · cases h0; rfl
          · cases h0
        · split at h0
          · cases h0; rfl
          · cases h0
        · cases h0
    · cases hp
  | _ => exact ⟨_, os, rfl, hp, rfl⟩
theorem ev_sto {α : Type} [Inhabited α] {f : α → SV} {l : List α} {a : α} {T : Tab} {os os1 os2 : List SO} {t j sz es i off m : Nat} {b : Bool} {y : SV} {ys : List SV} {F : Nat → SV → List SO → Out} {Q}
    (hti : (T.ti t).map (·.size) = some sz) (hsz : Nat.blt 0 sz = true) (hy : Nat.beq y.cells.length sz = true) (hp : pureCells y.cells os = some (ys, os1)) (hj1 : os1[j]? = some (.arr b es (l.map f)))
    (hd : (dcells (f (nth l i))).map List.length = some m) (hm : Nat.ble (off + sz) m = true) (hys : setElem (f (nth l i)) off ys = f a) (hi : i < l.length)
    (hn : nf (some (.undef, os1.set j (.arr b es ((l.set i a).map f)))) = some (.undef, os2)) (h2 : Ev (fun n => F n .undef os2) Q) :
    Ev (fun n => bd (storeO T os t (.ap j i off) (some y)) (F n)) Q := by
  obtain ⟨q, hq, hqs⟩ := Option.map_eq_some_iff.1 hti
  obtain ⟨yc, hyc, hyl⟩ := Option.map_eq_some_iff.1 hd
  have hsz' : 0 < sz := by simpa using hsz
  have hy' : y.cells.length = sz := Nat.eq_of_beq_eq_true hy
  have hm' : off + sz ≤ m := by simpa using hm
  refine ev_bdx (x := .undef) (os := os1.set j (.arr b es ((l.set i a).map f))) ?_ ?_
  · have hg : (l.map f)[i]? = some (f (nth l i)) := by
      rw [List.getElem?_map, get_nth hi]; rfl
    have h1 : (l.map f).set i (f a) = (l.set i a).map f := by rw [List.map_set]
    obtain ⟨z, os0, hz1, hz2, hz3⟩ := deVw_pure hp
    simp only [storeO, evN, hz1, storeS, hq, hqs, hz3.trans hy', if_true, hz2, hj1, hg, hyc]
    rw [if_pos ⟨by rw [hyl]; exact hm', hsz'⟩, hys, h1]
  · rw [nf_eq] at hn
    obtain ⟨-, rfl⟩ := Prod.mk.inj (Option.some.inj hn)
    exact h2
theorem ld_el {α : Type} [Inhabited α] {f : α → SV} {l : List α} {T : Tab} {os : List SO} {t j es i off : Nat} {b : Bool} (hj : os[j]? = some (.arr b es (l.map f))) (hi : i < l.length) :
    loadS T os t (.ap j i off) = loadS T os t (.el (f (nth l i)) off) := by
  have hg : (l.map f)[i]? = some (f (nth l i)) := by
    rw [List.getElem?_map, get_nth hi]; rfl
  simp only [loadS, placeCells, hj, hg]
theorem ev_ldm {α : Type} [Inhabited α] {f : α → SV} {l : List α} {T : Tab} {os os' : List SO} {t j es i off : Nat} {b : Bool} {x : SV} {F : Nat → SV → List SO → Out} {Q} (hj : os[j]? = some (.arr b es (l.map f))) (hi : i < l.length)
    (h : nfB (ret1 (loadS T os t (.el (f (nth l i)) off)) os) = some (x, os')) (h2 : Ev (fun n => F n x os') Q) : Ev (fun n => bd (ret1 (loadS T os t (.ap j i off)) os) (F n)) Q := by
  rw [nfB_eq] at h
  refine ev_bdx (x := x) (os := os') ?_ h2
  rw [ld_el hj hi, h]
theorem ev_ldmB {α : Type} [Inhabited α] {f : α → SV} {l : List α} {T : Tab} {os os' : List SO} {t j es i off : Nat} {b c : Bool} {F : Nat → SV → List SO → Out} {Q} (hj : os[j]? = some (.arr b es (l.map f))) (hi : i < l.length)
    (h : nf (ret1 (loadS T os t (.el (f (nth l i)) off)) os) = some (.v (.bool c), os')) (h1 : c = true → Ev (fun n => F n (.v (.bool true)) os') Q) (h2 : c = false → Ev (fun n => F n (.v (.bool false)) os') Q) : Ev (fun n => bd (ret1 (loadS T os t (.ap j i off)) os) (F n)) Q := by
  rw [nf_eq] at h
  cases c
  · refine ev_bdx (x := .v (.bool false)) (os := os') ?_ (h2 rfl)
    rw [ld_el hj hi, h]
  · refine ev_bdx (x := .v (.bool true)) (os := os') ?_ (h1 rfl)
    rw [ld_el hj hi, h]
theorem ev_lenfm {α : Type} {T : Tab} {t : Nat} {sz j : Nat} {f : α → SV} {l : List α} {os : List SO} {F : Nat → SV → List SO → Out} {Q} (hj : os[j]? = some (.frz sz (l.map f))) (hu : (slSize T t).isSome = true) (h2 : Ev (fun n => F n (iI (l.length : Int)) os) Q) :
    Ev (fun n => bd (lenO T t os (.osl j)) (F n)) Q := by
  obtain ⟨s, hs⟩ := Option.isSome_iff_exists.1 hu
  obtain ⟨e, q, hu, -⟩ := slSize_spec hs
  refine ev_bdx (x := iI (l.length : Int)) (os := os) ?_ h2
  simp [lenO, lenS, hu, elems, hj]
theorem ev_idxn {α : Type} [Inhabited α] {T : Tab} {t : Nat} {enc : α → SV} {l : List α} {sz i : Nat} {os : List SO} {F : Nat → SV → List SO → Out} {Q}
    (hu : slSize T t = some sz) (h0 : i < l.length) (h2 : Ev (fun n => F n (.el (enc (nth l i)) 0) os) Q) :
    Ev (fun n => bd (ret1 (indexAddrS T os t (.sl sz (l.map enc)) (.v (.int .i64 (i : Int)))) os) (F n)) Q :=
  ev_idx hu ⟨by omega, by omega⟩ h2
theorem ev_idxon {T : Tab} {os : List SO} {t j sz : Nat} {b : Bool} {l : List SV} {i : Nat} {F : Nat → SV → List SO → Out} {Q} (hj : os[j]? = some (.arr b sz l)) (hu : slSize T t = some sz) (h0 : i < l.length) (h2 : Ev (fun n => F n (.ap j i 0) os) Q) :
    Ev (fun n => bd (ret1 (indexAddrS T os t (.osl j) (.v (.int .i64 (i : Int)))) os) (F n)) Q :=
  ev_idxo hj hu ⟨by omega, by omega⟩ h2
theorem ev_idxf {α : Type} [Inhabited α] {T : Tab} {t : Nat} {enc : α → SV} {l : List α} {sz j : Nat} {i : Int} {os : List SO} {F : Nat → SV → List SO → Out} {Q}
    (hj : os[j]? = some (.frz sz (l.map enc))) (hu : slSize T t = some sz) (h0 : 0 ≤ i ∧ i < (l.length : Int)) (h2 : Ev (fun n => F n (.el (enc (nth l i.toNat)) 0) os) Q) :
    Ev (fun n => bd (ret1 (indexAddrS T os t (.osl j) (.v (.int .i64 i))) os) (F n)) Q := by
  obtain ⟨e, q, hu, hq, hs⟩ := slSize_spec hu
  refine ev_bdx (x := .el (enc (nth l i.toNat)) 0) (os := os) ?_ h2
  have hg : (l.map enc)[i.toNat]? = some (enc (nth l i.toNat)) := by
    rw [List.getElem?_map, get_nth (by omega)]; rfl
  simp [indexAddrS, hu, hq, hs, hj, h0.1, elS, hg, ret1]
theorem ev_idxfn {α : Type} [Inhabited α] {T : Tab} {t : Nat} {enc : α → SV} {l : List α} {sz j i : Nat} {os : List SO} {F : Nat → SV → List SO → Out} {Q}
    (hj : os[j]? = some (.frz sz (l.map enc))) (hu : slSize T t = some sz) (h0 : i < l.length) (h2 : Ev (fun n => F n (.el (enc (nth l i)) 0) os) Q) :
    Ev (fun n => bd (ret1 (indexAddrS T os t (.osl j) (.v (.int .i64 (i : Int)))) os) (F n)) Q :=
  ev_idxf hj hu ⟨by omega, by omega⟩ h2
theorem ev_mk {α : Type} {f : α → SV} {z : α} {T : Tab} {os os' : List SO} {t sz by_ : Nat} {n : Int} {y : SV} {F : Nat → SV → List SO → Out} {Q} (ht : slBytes T t = some (sz, by_)) (hz : (match T.und t with | some (.slice e) => (match T.ti e with | some i => pack i.agg (zeroP i.zero) | none => none) | _ => none) = some (f z))
    (hn : nf (some (.osl os.length, os ++ [.arr false sz ((List.replicate n.toNat z).map f)])) = some (y, os')) (h0 : 0 ≤ n ∧ by_ * n ≤ 140737488355328 ∧ n < 9223372036854775808) (h2 : Ev (fun n => F n y os') Q) :
    Ev (fun m => bd (makeS T os t (.v (.int .i64 n)) (.v (.int .i64 n))) (F m)) Q := by
  obtain ⟨e, q, hu, hq, h3, h4⟩ := slBytes_spec ht
  dsimp only at h3 h4
  rw [hu] at hz
  dsimp only at hz
  rw [hq] at hz
  dsimp only at hz
  refine ev_bdx (x := .osl os.length) (os := os ++ [.arr false sz ((List.replicate n.toNat z).map f)]) ?_ ?_
  · simp only [makeS, hu, hq, h3]
    rw [if_pos ⟨h0.1, Int.le_refl _, by rw [h4]; exact h0.2.1, h0.2.2⟩, hz]
    simp only [List.map_replicate]
  · rw [nf_eq] at hn
    obtain ⟨rfl, rfl⟩ := Prod.mk.inj (Option.some.inj hn)
    exact h2
theorem ev_callee {c : Nat → Cx} {os : List SO} {f : Nat} {caps args : List SV} {F : Nat → SV → List SO → Out} {Q} (h : Ev (fun n => bd (callS (c n) os f (args ++ caps)) (F n)) Q) : Ev (fun n => bd (calleeS (c n) os (.fn f caps) args) (F n)) Q := h
theorem Ev.of {A : Nat → Out} {x os} {Q : SV → List SO → Prop} (h : Ex A x os) (hq : Q x os) : Ev A Q := ⟨x, os, hq, h⟩
end Go.Proofs.Ytbagbhbplhkjaaa

/- Packages: what is ok; their texts and sums; indexes of them (the reference's functions). -/
namespace Go.Proofs.Ytbagbhbplhkjaaa
open Go
set_option linter.unusedVariables false
set_option linter.unusedSimpArgs false
set_option maxHeartbeats 4000000
def fileAt (l : List TFile) (i : Nat) : Prop := (0 ≤ (nth l i).path ∧ (nth l i).path ≤ 5) ∧ (0 ≤ (nth l i).data ∧ (nth l i).data ≤ 9) ∧ (0 < i → (nth l (i - 1)).path < (nth l i).path)
instance (l : List TFile) (i : Nat) : Decidable (fileAt l i) := by unfold fileAt; exact inferInstance
def depAt (name : Int) (l : List TDep) (i : Nat) : Prop := (1 ≤ (nth l i).name ∧ (nth l i).name ≤ 4) ∧ (nth l i).name ≠ name ∧ (1 ≤ (nth l i).least ∧ (nth l i).least ≤ 5) ∧ (0 < i → (nth l (i - 1)).name < (nth l i).name)
instance (name : Int) (l : List TDep) (i : Nat) : Decidable (depAt name l i) := by unfold depAt; exact inferInstance
def filesAt (l : List TFile) : Bool := decide (∀ i, i < l.length → fileAt l i)
def depsAt (name : Int) (l : List TDep) : Bool := decide (∀ i, i < l.length → depAt name l i)
def filesOk (l : List TFile) : Bool := decide (l.length ≤ 2) && filesAt l
def depsOk (name : Int) (l : List TDep) : Bool := decide (l.length ≤ 2) && depsAt name l
def pkgOk (p : TPkg) : Bool := decide (1 ≤ p.name ∧ p.name ≤ 4) && decide (1 ≤ p.ver ∧ p.ver ≤ 5) && filesOk p.files && depsOk p.name p.deps
theorem pkgOk_iff {p : TPkg} : pkgOk p = true ↔ (1 ≤ p.name ∧ p.name ≤ 4) ∧ (1 ≤ p.ver ∧ p.ver ≤ 5) ∧ filesOk p.files = true ∧ depsOk p.name p.deps = true := by
  simp [pkgOk, and_assoc]
theorem s_l1Files_L (l : List TFile) (hl : l.length ≤ 2000000) : ∀ i, i ≤ l.length → (∀ j, j < i → fileAt l j) → ∀ (k : Int) (c : Nat), k = i →
    Ev (fun n => L86_2 (callF prg n) (n + 1) 0 (n + 1 - c) (.sl 2 (l.map eFile)) (iI k) []) (Is (bB (filesOk l)) []) := by
  refine up_ind ?_
  intro i hi ih hp k c hk
  subst hk
  (refine UL86_2 ?_; unfold LB86_2)
  repeat' (first | ((with_reducible refine eG ?_); first | (with_reducible first | refine ev_gtt ?_ | refine ev_gff ?_ | refine ev_gtf ?_ | refine ev_gft ?_ | refine ev_gu ?_) | refine ev_bd rfl ?_ | refine ev_bd0 rfl ?_ | ((with_reducible refine ev_gB ?_ ?_) <;> intro h)) | ((with_reducible refine eB ?_); first | ((with_reducible first | refine ev_lss ?_ ?_ | refine ev_leq ?_ ?_ | refine ev_gtr ?_ ?_ | refine ev_geq ?_ ?_) <;> intro h <;> try (exfalso; omega)) | ((with_reducible first | refine ev_add ?_ ?_ | refine ev_sub ?_ ?_); · omega) | refine ev_bd rfl ?_ | refine ev_bd0 rfl ?_) | ((with_reducible refine eL ?_); first | ((with_reducible refine ev_lenm ?_ ?_); · rfl) | refine ev_lenom rfl rfl ?_ | refine ev_lenoc rfl rfl rfl ?_ | refine ev_lenc rfl rfl ?_ | refine ev_leno rfl rfl ?_ | refine ev_slen rfl ?_ | refine ev_bd rfl ?_ | refine ev_bd0 rfl ?_) | ((with_reducible refine eI ?_); first | ((with_reducible refine ev_idx ?_ ?_ ?_); (· rfl); · omega) | (refine ev_idxo rfl rfl ?_ ?_; (· first | omega | (simp only [List.length_cons, List.length_nil, List.length_map, List.length_append]; omega))) | refine ev_bd rfl ?_ | refine ev_bd0 rfl ?_) | ((with_reducible refine eC ?_); first | ((refine ev_callD (s_l6In ..) rfl rfl ?_ rfl rfl ?_ ?_); (focus first | exact .inl rfl | exact .inr rfl | (refine .inr ?_; simp [flagC, ownF, hasSl3, hasSl1, SO.hasSl, List.all_map, flatSV, SV.cells, Function.comp_def]; done)); (all_goals (intro h)); (all_goals (try (exfalso; first | omega | exact h rfl | exact h ⟨rfl, rfl, rfl⟩))))) | ((with_reducible refine eK ?_); first | (with_reducible first | refine ev_ct ?_ | refine ev_cf ?_) | ((with_reducible refine ev_cond ?_ ?_) <;> intro h)) | ((with_reducible refine eO ?_); first | refine ev_bd rfl ?_ | (refine ev_bdB rfl ?_ ?_ <;> intro h <;> try (exfalso; simp_all; done)) | refine ev_bd0 rfl ?_) | ((with_reducible refine eD ?_); first | refine ev_bd rfl ?_ | refine ev_bd0 rfl ?_ | ((with_reducible refine ev_pickB ?_ ?_) <;> intro h)) | ((with_reducible refine ih ?_ (all_step hp ?_) _ _ ?_) <;> (first | omega | assumption | ((unfold fileAt; (try simp only [Int.toNat_natCast, tn_sub1, tn_add1] at *); omega)) | (simp only [*, List.map_append, List.length_append, List.length_cons, List.length_nil, List.map_cons, List.map_nil]; done) | (simp_all; done) | (simp_all; omega))) | refine ev_ret rfl ?_)
  all_goals first
    | (have hm : filesAt l = false := all_false (i := i) (by omega) (by unfold fileAt; (try simp only [Int.toNat_natCast, tn_sub1, tn_add1] at *); omega)
       exact ⟨congrArg bB (by simp [filesOk, hm]), rfl⟩)
    | (have hm : filesAt l = true := all_true hp (by omega)
       exact ⟨congrArg bB (by simp [filesOk, hm] <;> omega), rfl⟩)
    | trace_state
theorem s_l1Files (l : List TFile) (hl : l.length ≤ 2000000) : Ex (fun m => callF prg m 86 [.sl 2 (l.map eFile)] []) (bB (filesOk l)) [] := by
  refine ev_is.1 ?_
  (refine U86 (nl := 0) rfl ?_; unfold B86)
  exact s_l1Files_L l hl 0 (by omega) (fun j hj => by omega) 0 0 rfl
theorem s_l1Deps_L (name : Int) (l : List TDep) (hl : l.length ≤ 2000000) : ∀ i, i ≤ l.length → (∀ j, j < i → depAt name l j) → ∀ (k : Int) (c : Nat), k = i →
    Ev (fun n => G87_2 (callF prg n) (n + 1) 0 (n + 1 - c) [iI name, .sl 2 (l.map eDep), iI k] []) (Is (bB (depsOk name l)) []) := by
  refine up_ind ?_
  intro i hi ih hp k c hk
  subst hk
  (refine UG87_2 _ ?_; unfold GB87_2)
  repeat' (first | ((with_reducible refine eG ?_); first | (with_reducible first | refine ev_gtt ?_ | refine ev_gff ?_ | refine ev_gtf ?_ | refine ev_gft ?_ | refine ev_gu ?_) | refine ev_bd rfl ?_ | refine ev_bd0 rfl ?_ | ((with_reducible refine ev_gB ?_ ?_) <;> intro h)) | ((with_reducible refine eB ?_); first | ((with_reducible first | refine ev_lss ?_ ?_ | refine ev_leq ?_ ?_ | refine ev_gtr ?_ ?_ | refine ev_geq ?_ ?_ | refine ev_eql ?_ ?_) <;> intro h <;> try (exfalso; omega)) | ((with_reducible first | refine ev_add ?_ ?_ | refine ev_sub ?_ ?_); · omega) | refine ev_bd rfl ?_ | refine ev_bd0 rfl ?_) | ((with_reducible refine eL ?_); first | ((with_reducible refine ev_lenm ?_ ?_); · rfl) | refine ev_lenom rfl rfl ?_ | refine ev_lenoc rfl rfl rfl ?_ | refine ev_lenc rfl rfl ?_ | refine ev_leno rfl rfl ?_ | refine ev_slen rfl ?_ | refine ev_bd rfl ?_ | refine ev_bd0 rfl ?_) | ((with_reducible refine eI ?_); first | ((with_reducible refine ev_idx ?_ ?_ ?_); (· rfl); · omega) | (refine ev_idxo rfl rfl ?_ ?_; (· first | omega | (simp only [List.length_cons, List.length_nil, List.length_map, List.length_append]; omega))) | refine ev_bd rfl ?_ | refine ev_bd0 rfl ?_) | ((with_reducible refine eC ?_); first | ((refine ev_callD (s_l6In ..) rfl rfl ?_ rfl rfl ?_ ?_); (focus first | exact .inl rfl | exact .inr rfl | (refine .inr ?_; simp [flagC, ownF, hasSl3, hasSl1, SO.hasSl, List.all_map, flatSV, SV.cells, Function.comp_def]; done)); (all_goals (intro h)); (all_goals (try (exfalso; first | omega | exact h rfl | exact h ⟨rfl, rfl, rfl⟩))))) | ((with_reducible refine eK ?_); first | (with_reducible first | refine ev_ct ?_ | refine ev_cf ?_) | ((with_reducible refine ev_cond ?_ ?_) <;> intro h)) | ((with_reducible refine eO ?_); first | refine ev_bd rfl ?_ | (refine ev_bdB rfl ?_ ?_ <;> intro h <;> try (exfalso; simp_all; done)) | refine ev_bd0 rfl ?_) | ((with_reducible refine eD ?_); first | refine ev_bd rfl ?_ | refine ev_bd0 rfl ?_ | ((with_reducible refine ev_pickB ?_ ?_) <;> intro h)) | ((with_reducible refine eH ?_); first | refine ev_gcB rfl ?_) | (with_reducible first | refine UL87_2 ?_ | refine VL87_2 ?_) | ((with_reducible refine ih ?_ (all_step hp ?_) _ _ ?_) <;> (first | omega | assumption | ((unfold depAt; (try simp only [Int.toNat_natCast, tn_sub1, tn_add1] at *); omega)) | (simp only [*, List.map_append, List.length_append, List.length_cons, List.length_nil, List.map_cons, List.map_nil]; done) | (simp_all; done) | (simp_all; omega))) | refine ev_ret rfl ?_)
  all_goals first
    | (have hm : depsAt name l = false := all_false (i := i) (by omega) (by unfold depAt; (try simp only [Int.toNat_natCast, tn_sub1, tn_add1] at *); omega)
       exact ⟨congrArg bB (by simp [depsOk, hm]), rfl⟩)
    | (have hm : depsAt name l = true := all_true hp (by omega)
       exact ⟨congrArg bB (by simp [depsOk, hm] <;> omega), rfl⟩)
    | trace_state
theorem s_l1Deps (name : Int) (l : List TDep) (hl : l.length ≤ 2000000) : Ex (fun m => callF prg m 87 [iI name, .sl 2 (l.map eDep)] []) (bB (depsOk name l)) [] := by
  refine ev_is.1 ?_
  (refine U87 (nl := 0) rfl ?_; unfold B87)
  repeat' (first | ((with_reducible refine eD ?_); first | refine ev_bd rfl ?_ | refine ev_bd0 rfl ?_) | ((with_reducible refine eH ?_); first | refine ev_gcB rfl ?_) | (with_reducible first | refine UL87_2 ?_ | refine VL87_2 ?_) | ( exact s_l1Deps_L name l hl 0 (by omega) (fun j hj => by omega) 0 1 rfl) | refine ev_ret rfl ?_)
theorem s_PkgOkS (name ver : Int) (F : List TFile) (D : List TDep) (hF : F.length ≤ 2000000) (hD : D.length ≤ 2000000) : Ex (fun m => callF prg m 79 [.ag [iI name, iI ver, .sl 2 (F.map eFile), .sl 2 (D.map eDep)]] []) (bB (pkgOk ⟨name, ver, F, D⟩)) [] := by
  refine ev_is.1 ?_
  (refine U79 (nl := 0) rfl ?_; unfold B79)
  repeat' (first | ((with_reducible refine eG ?_); first | (with_reducible first | refine ev_gtt ?_ | refine ev_gff ?_ | refine ev_gtf ?_ | refine ev_gft ?_ | refine ev_gu ?_) | refine ev_bd rfl ?_ | refine ev_bd0 rfl ?_ | ((with_reducible refine ev_gB ?_ ?_) <;> intro h)) | ((with_reducible refine eC ?_); first | ((refine ev_callD (s_l6In ..) rfl rfl ?_ rfl rfl ?_ ?_); (focus first | exact .inl rfl | exact .inr rfl | (refine .inr ?_; simp [flagC, ownF, hasSl3, hasSl1, SO.hasSl, List.all_map, flatSV, SV.cells, Function.comp_def]; done)); (all_goals (intro h)); (all_goals (try (exfalso; first | omega | exact h rfl | exact h ⟨rfl, rfl, rfl⟩)))) | ((refine ev_callB (s_l1Files _ hF) rfl rfl ?_ rfl rfl ?_ ?_); (focus first | exact .inl rfl | exact .inr rfl | (refine .inr ?_; simp [flagC, ownF, hasSl3, hasSl1, SO.hasSl, List.all_map, flatSV, SV.cells, Function.comp_def]; done)); (all_goals (intro h)); (all_goals (try (exfalso; simp_all; done)))) | ((refine ev_callB (s_l1Deps _ _ hD) rfl rfl ?_ rfl rfl ?_ ?_); (focus first | exact .inl rfl | exact .inr rfl | (refine .inr ?_; simp [flagC, ownF, hasSl3, hasSl1, SO.hasSl, List.all_map, flatSV, SV.cells, Function.comp_def]; done)); (all_goals (intro h)); (all_goals (try (exfalso; simp_all; done))))) | ((with_reducible refine eO ?_); first | refine ev_bd rfl ?_ | (refine ev_bdB rfl ?_ ?_ <;> intro h <;> try (exfalso; simp_all; done)) | refine ev_bd0 rfl ?_) | ((with_reducible refine eD ?_); first | refine ev_bd rfl ?_ | refine ev_bd0 rfl ?_ | ((with_reducible refine ev_pickB ?_ ?_) <;> intro h)) | refine ev_ret rfl ?_)
  all_goals (refine ⟨congrArg (fun b => SV.v (Value.bool b)) ?_, rfl⟩; first | (simp_all [pkgOk]; done) | (simp_all [pkgOk]; omega) | (simp [pkgOk] at *; omega) | (simp [pkgOk]; omega) | grind [pkgOk] | trace_state)
def bt (n : Int) : UInt8 := UInt8.ofNat n.toNat
def fileTx (f : TFile) : List UInt8 := [32, bt (48 + f.path), 58, bt (48 + f.data)]
def depTx (d : TDep) : List UInt8 := [32, bt (96 + d.name), bt (48 + d.least)]
def pkgTx (p : TPkg) : List UInt8 := [bt (96 + p.name), bt (48 + p.ver)] ++ p.files.flatMap fileTx ++ p.deps.flatMap depTx
def pkgText (p : TPkg) : List UInt8 := if pkgOk p = true then pkgTx p else []
def sumStep (s : Int) (b : UInt8) : Int := (31 * s + (b.toNat : Int) + 1) % 9973
def sumOf (l : List UInt8) : Int := l.foldl sumStep 7
def pkgAt (s : List TPkg) (i : Nat) : Prop := pkgOk (nth s i) = true ∧ (0 < i → pless (nth s (i - 1)) (nth s i))
instance (s : List TPkg) (i : Nat) : Decidable (pkgAt s i) := by unfold pkgAt; exact inferInstance
def storeOk (s : List TPkg) : Bool := decide (∀ i, i < s.length → pkgAt s i)
def PL (s : List TPkg) : Prop := ∀ i, (nth s i).files.length ≤ 2000000 ∧ (nth s i).deps.length ≤ 2000000
theorem PL_small {s : List TPkg} (h : smalls s) : PL s := by
  intro i
  by_cases hi : i < s.length
  · have hm : nth s i ∈ s := List.mem_of_getElem? (get_nth hi)
    have := h _ hm
    unfold small at this
    omega
  · have : nth s i = default := by
      unfold nth
      rw [List.getD_eq_getElem?_getD, List.getElem?_eq_none (by omega)]; rfl
    rw [this]
    exact ⟨by show ([] : List TFile).length ≤ _; simp, by show ([] : List TDep).length ≤ _; simp⟩
theorem s_l3Pkgs_L (s : List TPkg) (hs : s.length ≤ 2000000) (hp0 : PL s) : ∀ i, i ≤ s.length → (∀ j, j < i → pkgAt s j) → ∀ (k : Int) (c : Nat), k = i →
    Ev (fun n => L66_2 (callF prg n) (n + 1) 0 (n + 1 - c) (.sl 4 (s.map ePkg)) (iI k) []) (Is (bB (storeOk s)) []) := by
  refine up_ind ?_
  intro i hi ih hp k c hk
  subst hk
  (refine UL66_2 ?_; unfold LB66_2)
  repeat' (first | ((with_reducible refine eG ?_); first | (with_reducible first | refine ev_gtt ?_ | refine ev_gff ?_ | refine ev_gtf ?_ | refine ev_gft ?_ | refine ev_gu ?_) | refine ev_bd rfl ?_ | refine ev_bd0 rfl ?_ | ((with_reducible refine ev_gB ?_ ?_) <;> intro h)) | ((with_reducible refine eB ?_); first | ((with_reducible first | refine ev_lss ?_ ?_ | refine ev_gtr ?_ ?_) <;> intro h <;> try (exfalso; omega)) | ((with_reducible first | refine ev_add ?_ ?_ | refine ev_sub ?_ ?_); · omega) | refine ev_bd rfl ?_ | refine ev_bd0 rfl ?_) | ((with_reducible refine eL ?_); first | ((with_reducible refine ev_lenm ?_ ?_); · rfl) | refine ev_lenom rfl rfl ?_ | refine ev_lenoc rfl rfl rfl ?_ | refine ev_lenc rfl rfl ?_ | refine ev_leno rfl rfl ?_ | refine ev_slen rfl ?_ | refine ev_bd rfl ?_ | refine ev_bd0 rfl ?_) | ((with_reducible refine eI ?_); first | ((with_reducible refine ev_idx ?_ ?_ ?_); (· rfl); · omega) | (refine ev_idxo rfl rfl ?_ ?_; (· first | omega | (simp only [List.length_cons, List.length_nil, List.length_map, List.length_append]; omega))) | refine ev_bd rfl ?_ | refine ev_bd0 rfl ?_) | ((with_reducible refine eC ?_); first | ((refine ev_callB (s_PkgOkS _ _ _ _ (hp0 _).1 (hp0 _).2) rfl rfl ?_ rfl rfl ?_ ?_); (focus first | exact .inl rfl | exact .inr rfl | (refine .inr ?_; simp [flagC, ownF, hasSl3, hasSl1, SO.hasSl, List.all_map, flatSV, SV.cells, Function.comp_def]; done)); (all_goals (intro h)); (all_goals (try (exfalso; simp_all; done)))) | ((refine ev_callD (s_l3Less ..) rfl rfl ?_ rfl rfl ?_ ?_); (focus first | exact .inl rfl | exact .inr rfl | (refine .inr ?_; simp [flagC, ownF, hasSl3, hasSl1, SO.hasSl, List.all_map, flatSV, SV.cells, Function.comp_def]; done)); (all_goals (intro h)); (all_goals (try (exfalso; first | omega | exact h rfl | exact h ⟨rfl, rfl, rfl⟩))))) | ((with_reducible refine eK ?_); first | (with_reducible first | refine ev_ct ?_ | refine ev_cf ?_) | ((with_reducible refine ev_cond ?_ ?_) <;> intro h)) | ((with_reducible refine eO ?_); first | refine ev_bd rfl ?_ | (refine ev_bdB rfl ?_ ?_ <;> intro h <;> try (exfalso; simp_all; done)) | refine ev_bd0 rfl ?_) | ((with_reducible refine eD ?_); first | refine ev_bd rfl ?_ | refine ev_bd0 rfl ?_ | ((with_reducible refine ev_pickB ?_ ?_) <;> intro h)) | ((with_reducible refine ih ?_ (all_step hp ?_) _ _ ?_) <;> (first | omega | assumption | ((refine ⟨by assumption, fun hi0 => ?_⟩; unfold pless; (try simp only [Int.toNat_natCast, tn_sub1, tn_add1] at *); omega)) | (simp only [*, List.map_append, List.length_append, List.length_cons, List.length_nil, List.map_cons, List.map_nil]; done) | (simp_all; done) | (simp_all; omega))) | refine ev_ret rfl ?_)
  all_goals first
    | exact ⟨congrArg bB (Eq.symm (all_true hp (by omega))), rfl⟩
    | (refine ⟨congrArg bB (Eq.symm (all_false (i := i) (by omega) ?_)), rfl⟩; intro hh; have h1 := hh.2 (by omega); unfold pless at h1; (try simp only [Int.toNat_natCast, tn_sub1, tn_add1] at *); omega)
    | (refine ⟨congrArg bB (Eq.symm (all_false (i := i) (by omega) ?_)), rfl⟩; intro hh; have h1 := hh.1; simp only [Int.toNat_natCast] at h; simp_all; done)
    | trace_state
theorem s_l3Pkgs (s : List TPkg) (hs : s.length ≤ 2000000) (hp0 : PL s) : Ex (fun m => callF prg m 66 [.sl 4 (s.map ePkg)] []) (bB (storeOk s)) [] := by
  refine ev_is.1 ?_
  (refine U66 (nl := 0) rfl ?_; unfold B66)
  exact s_l3Pkgs_L s hs hp0 0 (by omega) (fun j hj => by omega) 0 0 rfl
def metaOf (p : TPkg) : TMeta := ⟨p.name, p.ver, sumOf (pkgText p)⟩
def zIndex : TIndex := ⟨0, 0, []⟩
def indexOf (num til : Int) (s : List TPkg) : TIndex × Bool := if storeOk s = true ∧ indexOk num til (s.map metaOf) = true then (⟨num, til, s.map metaOf⟩, true) else (zIndex, false)
abbrev rIndex (x : TIndex) : SV := .ag [iI x.num, iI x.til, .osl 0]
end Go.Proofs.Ytbagbhbplhkjaaa
