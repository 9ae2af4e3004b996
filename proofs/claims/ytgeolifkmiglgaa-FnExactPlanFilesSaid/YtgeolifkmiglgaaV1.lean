/- The evaluator S and what it says of functions: Sb, V1. -/
import Derived.Test.YtgeolifkmiglgaaSb1
import Derived.Test.YtgeolifkmiglgaaProg
import Derived.KernelRfl
import Derived.Test.YtgeolifkmiglgaaTg
/- The evaluator S: the functions of this seat, read chunk by chunk (2). -/
namespace Go.Proofs.Ytgeolifkmiglgaa
open Go
set_option linter.unusedVariables false
set_option maxRecDepth 100000
noncomputable def bk100_4 (K : Nat → List SV → List SO → Out) (N nl : Nat) (m4 : Nat) : Env → List SO → Out := fun env os => loopS nl (fi100.lp 4) (fun env os nx => exec (cx K) N nl fi100 (subC c100 [1, 1, 1, 0, 1, 0, 0]) env os (kLoop nx (kBlock 0 (kSeq (exec (cx K) N nl fi100 (subC c100 [1, 1, 1, 1])) (fi100.jn 8) (kEnd tab [] nl rs100))))) m4 (killS (fi100.lp 4).alive env) os
noncomputable def bk100_9 (K : Nat → List SV → List SO → Out) (N nl : Nat) (m9 : Nat) : Env → List SO → Out := fun env os => loopS nl (fi100.lp 9) (fun env os nx => exec (cx K) N nl fi100 (subC c100 [1, 1, 1, 1, 0, 1, 0, 0]) env os (kLoop nx (kBlock 2 (kSeq (exec (cx K) N nl fi100 (subC c100 [1, 1, 1, 1, 1])) (fi100.jn 13) (kEnd tab [] nl rs100))))) m9 (killS (fi100.lp 9).alive env) os
noncomputable def bk101_2 (K : Nat → List SV → List SO → Out) (N nl : Nat) (m2 : Nat) : Env → List SO → Out := fun env os => loopS nl (fi101.lp 2) (fun env os nx => exec (cx K) N nl fi101 (subC c101 [1, 0, 1, 0, 0]) env os (kLoop nx (kBlock 0 (kSeq (exec (cx K) N nl fi101 (subC c101 [1, 1])) (fi101.jn 6) (kEnd tab [] nl rs101))))) m2 (killS (fi101.lp 2).alive env) os
noncomputable def bk102_3 (K : Nat → List SV → List SO → Out) (N nl : Nat) (m3 : Nat) : Env → List SO → Out := fun env os => loopS nl (fi102.lp 3) (fun env os nx => exec (cx K) N nl fi102 (subC c102 [1, 1, 0, 1, 0, 0]) env os (kLoop nx (kBlock 0 (kSeq (exec (cx K) N nl fi102 (subC c102 [1, 1, 1])) (fi102.jn 7) (kEnd tab [] nl rs102))))) m3 (killS (fi102.lp 3).alive env) os
noncomputable def bk102_9 (K : Nat → List SV → List SO → Out) (N nl : Nat) (m9 : Nat) : Env → List SO → Out := fun env os => loopS nl (fi102.lp 9) (fun env os nx => exec (cx K) N nl fi102 (subC c102 [1, 1, 1, 1, 0, 1, 0, 0]) env os (kLoop nx (kBlock 2 (kSeq (exec (cx K) N nl fi102 (subC c102 [1, 1, 1, 1, 1])) (fi102.jn 13) (kEnd tab [] nl rs102))))) m9 (killS (fi102.lp 9).alive env) os
noncomputable def X103 (K : Nat → List SV → List SO → Out) (N nl : Nat) (x0 x1 : SV) (os : List SO) : Out := exec (cx K) N nl fi103 c103 [(0, x0), (1, x1)] os (kEnd tab [] nl rs103)
noncomputable def B103 (K : Nat → List SV → List SO → Out) (N nl : Nat) (x0 x1 : SV) (os : List SO) : Out :=
 bd (boxS tab os 47 (some x0)) fun v1 o1 =>
 bd (boxS tab o1 47 (some x1)) fun v2 o2 =>
 bd (ret1 (fieldAddrS tab 47 v1 0) o2) fun v3 o3 =>
 bd (ret1 (loadS tab o3 3 v3) o3) fun v4 o4 =>
 bd (ret1 (fieldAddrS tab 47 v2 0) o4) fun v5 o5 =>
 bd (ret1 (loadS tab o5 3 v5) o5) fun v6 o6 =>
 bd (ret1 (binS tab .neq 3 v4 v6) o6) fun v7 o7 =>
 condS v7 (retV tab nl o7 (resC1 (some (SV.v (.bool false))) (some [])))
 (bd (ret1 (fieldAddrS tab 47 v1 1) o7) fun v8 o8 =>
 bd (ret1 (loadS tab o8 3 v8) o8) fun v9 o9 =>
 bd (ret1 (fieldAddrS tab 47 v2 1) o9) fun v10 o10 =>
 bd (ret1 (loadS tab o10 3 v10) o10) fun v11 o11 =>
 bd (ret1 (binS tab .neq 3 v9 v11) o11) fun v12 o12 =>
 condS v12 (retV tab nl o12 (resC1 (some (SV.v (.bool false))) (some [])))
 (retV tab nl o12 (resC1 (some (SV.v (.bool true))) (some []))))
noncomputable def X104 (K : Nat → List SV → List SO → Out) (N nl : Nat) (x0 x1 : SV) (os : List SO) : Out := exec (cx K) N nl fi104 c104 [(0, x0), (1, x1)] os (kEnd tab [] nl rs104)
noncomputable def B104 (K : Nat → List SV → List SO → Out) (N nl : Nat) (x0 x1 : SV) (os : List SO) : Out :=
 bd (boxS tab os 43 (some x0)) fun v1 o1 =>
 bd (boxS tab o1 43 (some x1)) fun v2 o2 =>
 bd (ret1 (fieldAddrS tab 43 v1 0) o2) fun v3 o3 =>
 bd (ret1 (loadS tab o3 3 v3) o3) fun v4 o4 =>
 bd (ret1 (fieldAddrS tab 43 v2 0) o4) fun v5 o5 =>
 bd (ret1 (loadS tab o5 3 v5) o5) fun v6 o6 =>
 bd (ret1 (binS tab .neq 3 v4 v6) o6) fun v7 o7 =>
 condS v7 (retV tab nl o7 (resC1 (some (SV.v (.bool false))) (some [])))
 (bd (ret1 (fieldAddrS tab 43 v1 1) o7) fun v8 o8 =>
 bd (ret1 (loadS tab o8 3 v8) o8) fun v9 o9 =>
 bd (ret1 (fieldAddrS tab 43 v2 1) o9) fun v10 o10 =>
 bd (ret1 (loadS tab o10 3 v10) o10) fun v11 o11 =>
 bd (ret1 (binS tab .neq 3 v9 v11) o11) fun v12 o12 =>
 condS v12 (retV tab nl o12 (resC1 (some (SV.v (.bool false))) (some [])))
 (retV tab nl o12 (resC1 (some (SV.v (.bool true))) (some []))))
noncomputable def bk106_2 (K : Nat → List SV → List SO → Out) (N nl : Nat) (m2 : Nat) : Env → List SO → Out := fun env os => loopS nl (fi106.lp 2) (fun env os nx => exec (cx K) N nl fi106 (subC c106 [1, 0, 1, 0, 0]) env os (kLoop nx (kBlock 0 (kSeq (exec (cx K) N nl fi106 (subC c106 [1, 1])) (fi106.jn 7) (kEnd tab [] nl rs106))))) m2 (killS (fi106.lp 2).alive env) os
noncomputable def X107 (K : Nat → List SV → List SO → Out) (N nl : Nat) (x0 : SV) (os : List SO) : Out := exec (cx K) N nl fi107 c107 [(0, x0)] os (kEnd tab [] nl rs107)
noncomputable def B107 (K : Nat → List SV → List SO → Out) (N nl : Nat) (x0 : SV) (os : List SO) : Out :=
 bd (callS ⟨tab, ownF, K⟩ os 80 [x0, (SV.v (.int .i64 1)), (SV.v (.int .i64 4))]) fun v1 o1 =>
 retV tab nl o1 (resC1 (some v1) (some []))
noncomputable def X108 (K : Nat → List SV → List SO → Out) (N nl : Nat) (x0 : SV) (os : List SO) : Out := exec (cx K) N nl fi108 c108 [(0, x0)] os (kEnd tab [] nl rs108)
noncomputable def B108 (K : Nat → List SV → List SO → Out) (N nl : Nat) (x0 : SV) (os : List SO) : Out :=
 bd (callS ⟨tab, ownF, K⟩ os 80 [x0, (SV.v (.int .i64 1)), (SV.v (.int .i64 5))]) fun v1 o1 =>
 retV tab nl o1 (resC1 (some v1) (some []))
noncomputable def bk109_3 (K : Nat → List SV → List SO → Out) (N nl : Nat) (m3 : Nat) : Env → List SO → Out := fun env os => loopS nl (fi109.lp 3) (fun env os nx => exec (cx K) N nl fi109 (subC c109 [1, 1, 0, 1, 0, 0]) env os (kLoop nx (kBlock 0 (kSeq (exec (cx K) N nl fi109 (subC c109 [1, 1, 1])) (fi109.jn 8) (kEnd tab [] nl rs109))))) m3 (killS (fi109.lp 3).alive env) os
noncomputable def L109_3 (K : Nat → List SV → List SO → Out) (N nl : Nat) (m3 : Nat) (x3 x6 x7 x8 : SV) (os : List SO) : Out := loopS nl (fi109.lp 3) (fun env os nx => exec (cx K) N nl fi109 (subC c109 [1, 1, 0, 1, 0, 0]) env os (kLoop nx (kBlock 0 (kSeq (exec (cx K) N nl fi109 (subC c109 [1, 1, 1])) (fi109.jn 8) (kEnd tab [] nl rs109))))) m3 [(3, x3), (6, x6), (7, x7), (8, x8)] os
noncomputable def LB109_3 (K : Nat → List SV → List SO → Out) (N nl : Nat) (m3 : Nat) (x3 x6 x7 x8 : SV) (os : List SO) : Out :=
 bd (ret1 (binS tab .lss 3 x8 x7) os) fun v2 o2 =>
 condS v2 (bd (ret1 (indexAddrS tab o2 45 x6 x8) o2) fun v3 o3 =>
 bd (ret1 (loadS tab o3 3 v3) o3) fun v4 o4 =>
 bd (ret1 (binS tab .neq 3 v4 x3) o4) fun v5 o5 =>
 condS v5 (retV tab nl o5 (resC1 (some v4) (some [])))
 (bd (ret1 (binS tab .add 3 x8 (SV.v (.int .i64 1))) o5) fun v6 o6 =>
 L109_3 K N nl m3 x3 x6 x7 v6 o6))
 (retV tab nl o2 (resC1 (some x3) (some [])))
noncomputable def X109 (K : Nat → List SV → List SO → Out) (N nl : Nat) (x0 : SV) (os : List SO) : Out := exec (cx K) N nl fi109 c109 [(0, x0)] os (kEnd tab [] nl rs109)
noncomputable def B109 (K : Nat → List SV → List SO → Out) (N nl : Nat) (x0 : SV) (os : List SO) : Out :=
 bd (lenO tab 45 os x0) fun v1 o1 =>
 L109_3 K N nl N (SV.v (.int .i64 0)) x0 v1 (SV.v (.int .i64 0)) o1
noncomputable def X110 (K : Nat → List SV → List SO → Out) (N nl : Nat) (x0 x1 : SV) (os : List SO) : Out := exec (cx K) N nl fi110 c110 [(0, x0), (1, x1)] os (kEnd tab [] nl rs110)
noncomputable def B110 (K : Nat → List SV → List SO → Out) (N nl : Nat) (x0 x1 : SV) (os : List SO) : Out :=
 bd (callS ⟨tab, ownF, K⟩ os 120 [x0]) fun v1 o1 =>
 bd (callS ⟨tab, ownF, K⟩ o1 120 [x1]) fun v2 o2 =>
 condS v1 (condS v2 (retV tab nl o2 (resC1 (some (SV.v (.int .i64 0))) (some [])))
 (retV tab nl o2 (resC1 (some (SV.v (.int .i64 (-1)))) (some []))))
 (condS v2 (retV tab nl o2 (resC1 (some (SV.v (.int .i64 1))) (some [])))
 (bd (ret1 (binS tab .lss 3 x0 x1) o2) fun v3 o3 =>
 condS v3 (retV tab nl o3 (resC1 (some (SV.v (.int .i64 (-1)))) (some [])))
 (bd (ret1 (binS tab .gtr 3 x0 x1) o3) fun v4 o4 =>
 condS v4 (retV tab nl o4 (resC1 (some (SV.v (.int .i64 1))) (some [])))
 (retV tab nl o4 (resC1 (some (SV.v (.int .i64 0))) (some []))))))
noncomputable def bk111_2 (K : Nat → List SV → List SO → Out) (N nl : Nat) (m2 : Nat) : Env → List SO → Out := fun env os => loopS nl (fi111.lp 2) (fun env os nx => exec (cx K) N nl fi111 (subC c111 [1, 0, 1, 0, 0]) env os (kLoop nx (kBlock 0 (kSeq (exec (cx K) N nl fi111 (subC c111 [1, 1])) (fi111.jn 6) (kEnd tab [] nl rs111))))) m2 (killS (fi111.lp 2).alive env) os
noncomputable def L111_2 (K : Nat → List SV → List SO → Out) (N nl : Nat) (m2 : Nat) (x0 x3 : SV) (os : List SO) : Out := loopS nl (fi111.lp 2) (fun env os nx => exec (cx K) N nl fi111 (subC c111 [1, 0, 1, 0, 0]) env os (kLoop nx (kBlock 0 (kSeq (exec (cx K) N nl fi111 (subC c111 [1, 1])) (fi111.jn 6) (kEnd tab [] nl rs111))))) m2 [(0, x0), (3, x3)] os
noncomputable def LB111_2 (K : Nat → List SV → List SO → Out) (N nl : Nat) (m2 : Nat) (x0 x3 : SV) (os : List SO) : Out :=
 bd (lenO tab 26 os x0) fun v1 o1 =>
 bd (ret1 (binS tab .lss 3 x3 v1) o1) fun v2 o2 =>
 condS v2 (bd (ret1 (indexAddrS tab o2 26 x0 x3) o2) fun v3 o3 =>
 bd (ret1 (fieldAddrS tab 47 v3 0) o3) fun v4 o4 =>
 bd (ret1 (loadS tab o4 3 v4) o4) fun v5 o5 =>
 bd (callS ⟨tab, ownF, K⟩ o5 77 [v5, (SV.v (.int .i64 0)), (SV.v (.int .i64 5))]) fun v6 o6 =>
 bd (ret1 (unS .not v6) o6) fun v7 o7 =>
 bd (gd v7 false (some (x0, o7)) o7) fun v8 o8 =>
 bd (gd v7 false (some (x3, o8)) o8) fun v9 o9 =>
 bd (gd v7 false (ret1 (indexAddrS tab o9 26 v8 v9) o9) o9) fun v10 o10 =>
 bd (gd v7 false (ret1 (fieldAddrS tab 47 v10 1) o10) o10) fun v11 o11 =>
 bd (gd v7 false (ret1 (loadS tab o11 3 v11) o11) o11) fun v12 o12 =>
 bd (gd v7 false (callS ⟨tab, ownF, K⟩ o12 77 [v12, (SV.v (.int .i64 0)), (SV.v (.int .i64 9))]) o12) fun v13 o13 =>
 bd (gd v7 false (ret1 (unS .not v13) o13) o13) fun v14 o14 =>
 bd (ret1 (pickS v7 (SV.v (.bool true)) v14) o14) fun v15 o15 =>
 bd (gd v15 false (some (x3, o15)) o15) fun v16 o16 =>
 bd (gd v15 false (ret1 (binS tab .gtr 3 v16 (SV.v (.int .i64 0))) o16) o16) fun v17 o17 =>
 bd (gd v15 false (some (v17, o17)) o17) fun v18 o18 =>
 bd (gd v18 true (some (x0, o18)) o18) fun v19 o19 =>
 bd (gd v18 true (some (x3, o19)) o19) fun v20 o20 =>
 bd (gd v18 true (ret1 (binS tab .sub 3 v20 (SV.v (.int .i64 1))) o20) o20) fun v21 o21 =>
 bd (gd v18 true (ret1 (indexAddrS tab o21 26 v19 v21) o21) o21) fun v22 o22 =>
 bd (gd v18 true (ret1 (fieldAddrS tab 47 v22 0) o22) o22) fun v23 o23 =>
 bd (gd v18 true (ret1 (loadS tab o23 3 v23) o23) o23) fun v24 o24 =>
 bd (gd v18 true (some (x0, o24)) o24) fun v25 o25 =>
 bd (gd v18 true (some (x3, o25)) o25) fun v26 o26 =>
 bd (gd v18 true (ret1 (indexAddrS tab o26 26 v25 v26) o26) o26) fun v27 o27 =>
 bd (gd v18 true (ret1 (fieldAddrS tab 47 v27 0) o27) o27) fun v28 o28 =>
 bd (gd v18 true (ret1 (loadS tab o28 3 v28) o28) o28) fun v29 o29 =>
 bd (gd v18 true (ret1 (binS tab .geq 3 v24 v29) o29) o29) fun v30 o30 =>
 bd (gd v15 false (ret1 (pickS v18 v30 (SV.v (.bool false))) o30) o30) fun v31 o31 =>
 bd (ret1 (pickS v15 (SV.v (.bool true)) v31) o31) fun v32 o32 =>
 condS v32 (retV tab nl o32 (resC1 (some (SV.v (.bool false))) (some [])))
 (bd (ret1 (binS tab .add 3 x3 (SV.v (.int .i64 1))) o32) fun v33 o33 =>
 L111_2 K N nl m2 x0 v33 o33))
 (bd (lenO tab 26 o2 x0) fun v34 o34 =>
 bd (ret1 (binS tab .leq 3 v34 (SV.v (.int .i64 2))) o34) fun v35 o35 =>
 retV tab nl o35 (resC1 (some v35) (some [])))
noncomputable def X111 (K : Nat → List SV → List SO → Out) (N nl : Nat) (x0 : SV) (os : List SO) : Out := exec (cx K) N nl fi111 c111 [(0, x0)] os (kEnd tab [] nl rs111)
noncomputable def B111 (K : Nat → List SV → List SO → Out) (N nl : Nat) (x0 : SV) (os : List SO) : Out :=
 L111_2 K N nl N x0 (SV.v (.int .i64 0)) os
noncomputable def bk112_2 (K : Nat → List SV → List SO → Out) (N nl : Nat) (m2 : Nat) : Env → List SO → Out := fun env os => loopS nl (fi112.lp 2) (fun env os nx => exec (cx K) N nl fi112 (subC c112 [1, 0, 1, 0, 0]) env os (kLoop nx (kBlock 0 (kSeq (exec (cx K) N nl fi112 (subC c112 [1, 1])) (fi112.jn 7) (kEnd tab [] nl rs112))))) m2 (killS (fi112.lp 2).alive env) os
noncomputable def L112_2 (K : Nat → List SV → List SO → Out) (N nl : Nat) (m2 : Nat) (x0 x1 x5 : SV) (os : List SO) : Out := loopS nl (fi112.lp 2) (fun env os nx => exec (cx K) N nl fi112 (subC c112 [1, 0, 1, 0, 0]) env os (kLoop nx (kBlock 0 (kSeq (exec (cx K) N nl fi112 (subC c112 [1, 1])) (fi112.jn 7) (kEnd tab [] nl rs112))))) m2 [(0, x0), (1, x1), (5, x5)] os
noncomputable def G112_2 (K : Nat → List SV → List SO → Out) (N nl : Nat) (m2 : Nat) (xs : List SV) (os : List SO) : Out := (fun env os nx => exec (cx K) N nl fi112 (subC c112 [1, 0, 1, 0, 0]) env os (kLoop nx (kBlock 0 (kSeq (exec (cx K) N nl fi112 (subC c112 [1, 1])) (fi112.jn 7) (kEnd tab [] nl rs112))))) (zipE [0, 1, 5] xs) os (bk112_2 K N nl m2)
noncomputable def GB112_2 (K : Nat → List SV → List SO → Out) (N nl : Nat) (m2 : Nat) (x0 x1 x5 : SV) (os : List SO) : Out :=
 bd (lenO tab 27 os x1) fun v1 o1 =>
 bd (ret1 (binS tab .lss 3 x5 v1) o1) fun v2 o2 =>
 condS v2 (bd (ret1 (indexAddrS tab o2 27 x1 x5) o2) fun v3 o3 =>
 bd (ret1 (loadS tab o3 43 v3) o3) fun v4 o4 =>
 bd (allocS tab o4 43) fun v5 o5 =>
 bd (storeO tab o5 43 v5 (some v4)) fun v6 o6 =>
 bd (ret1 (fieldAddrS tab 43 v5 0) o6) fun v7 o7 =>
 bd (ret1 (loadS tab o7 3 v7) o7) fun v8 o8 =>
 bd (callS ⟨tab, ownF, K⟩ o8 77 [v8, (SV.v (.int .i64 1)), (SV.v (.int .i64 4))]) fun v9 o9 =>
 bd (ret1 (unS .not v9) o9) fun v10 o10 =>
 bd (gd v10 false (ret1 (fieldAddrS tab 43 v5 0) o10) o10) fun v11 o11 =>
 bd (gd v10 false (ret1 (loadS tab o11 3 v11) o11) o11) fun v12 o12 =>
 bd (gd v10 false (some (x0, o12)) o12) fun v13 o13 =>
 bd (gd v10 false (ret1 (binS tab .eql 3 v12 v13) o13) o13) fun v14 o14 =>
 bd (ret1 (pickS v10 (SV.v (.bool true)) v14) o14) fun v15 o15 =>
 bd (gd v15 false (ret1 (fieldAddrS tab 43 v5 1) o15) o15) fun v16 o16 =>
 bd (gd v15 false (ret1 (loadS tab o16 3 v16) o16) o16) fun v17 o17 =>
 bd (gd v15 false (callS ⟨tab, ownF, K⟩ o17 77 [v17, (SV.v (.int .i64 1)), (SV.v (.int .i64 5))]) o17) fun v18 o18 =>
 bd (gd v15 false (ret1 (unS .not v18) o18) o18) fun v19 o19 =>
 bd (ret1 (pickS v15 (SV.v (.bool true)) v19) o19) fun v20 o20 =>
 bd (gd v20 false (some (x5, o20)) o20) fun v21 o21 =>
 bd (gd v20 false (ret1 (binS tab .gtr 3 v21 (SV.v (.int .i64 0))) o21) o21) fun v22 o22 =>
 bd (gd v20 false (some (v22, o22)) o22) fun v23 o23 =>
 bd (gd v23 true (some (x1, o23)) o23) fun v24 o24 =>
 bd (gd v23 true (some (x5, o24)) o24) fun v25 o25 =>
 bd (gd v23 true (ret1 (binS tab .sub 3 v25 (SV.v (.int .i64 1))) o25) o25) fun v26 o26 =>
 bd (gd v23 true (ret1 (indexAddrS tab o26 27 v24 v26) o26) o26) fun v27 o27 =>
 bd (gd v23 true (ret1 (fieldAddrS tab 43 v27 0) o27) o27) fun v28 o28 =>
 bd (gd v23 true (ret1 (loadS tab o28 3 v28) o28) o28) fun v29 o29 =>
 bd (gd v23 true (ret1 (fieldAddrS tab 43 v5 0) o29) o29) fun v30 o30 =>
 bd (gd v23 true (ret1 (loadS tab o30 3 v30) o30) o30) fun v31 o31 =>
 bd (gd v23 true (ret1 (binS tab .geq 3 v29 v31) o31) o31) fun v32 o32 =>
 bd (gd v20 false (ret1 (pickS v23 v32 (SV.v (.bool false))) o32) o32) fun v33 o33 =>
 bd (ret1 (pickS v20 (SV.v (.bool true)) v33) o33) fun v34 o34 =>
 condS v34 (retV tab nl o34 (resC1 (some (SV.v (.bool false))) (some [])))
 (bd (ret1 (binS tab .add 3 x5 (SV.v (.int .i64 1))) o34) fun v35 o35 =>
 L112_2 K N nl m2 x0 x1 v35 o35))
 (bd (lenO tab 27 o2 x1) fun v36 o36 =>
 bd (ret1 (binS tab .leq 3 v36 (SV.v (.int .i64 2))) o36) fun v37 o37 =>
 retV tab nl o37 (resC1 (some v37) (some [])))
noncomputable def X112 (K : Nat → List SV → List SO → Out) (N nl : Nat) (x0 x1 : SV) (os : List SO) : Out := exec (cx K) N nl fi112 c112 [(0, x0), (1, x1)] os (kEnd tab [] nl rs112)
noncomputable def B112 (K : Nat → List SV → List SO → Out) (N nl : Nat) (x0 x1 : SV) (os : List SO) : Out :=
 L112_2 K N nl N x0 x1 (SV.v (.int .i64 0)) os
noncomputable def X113 (K : Nat → List SV → List SO → Out) (N nl : Nat) (x0 : SV) (os : List SO) : Out := exec (cx K) N nl fi113 c113 [(0, x0)] os (kEnd tab [] nl rs113)
noncomputable def B113 (K : Nat → List SV → List SO → Out) (N nl : Nat) (x0 : SV) (os : List SO) : Out :=
 bd (boxS tab os 122 (some x0)) fun v1 o1 =>
 bd (allocS tab o1 47) fun v2 o2 =>
 bd (allocS tab o2 47) fun v3 o3 =>
 bd (ret1 (fieldAddrS tab 122 v1 0) o3) fun v4 o4 =>
 bd (ret1 (loadS tab o4 3 v4) o4) fun v5 o5 =>
 bd (ret1 (fieldAddrS tab 47 v3 0) o5) fun v6 o6 =>
 bd (storeO tab o6 3 v6 (some v5)) fun v7 o7 =>
 bd (ret1 (fieldAddrS tab 122 v1 1) o7) fun v8 o8 =>
 bd (ret1 (loadS tab o8 3 v8) o8) fun v9 o9 =>
 bd (ret1 (fieldAddrS tab 47 v3 1) o9) fun v10 o10 =>
 bd (storeO tab o10 3 v10 (some v9)) fun v11 o11 =>
 bd (ret1 (loadS tab o11 47 v3) o11) fun v12 o12 =>
 bd (storeO tab o12 47 v2 (some v12)) fun v13 o13 =>
 retV tab nl o13 (resC1 (loadS tab o13 47 v2) (some []))
noncomputable def X114 (K : Nat → List SV → List SO → Out) (N nl : Nat) (x0 : SV) (os : List SO) : Out := exec (cx K) N nl fi114 c114 [(0, x0)] os (kEnd tab [] nl rs114)
noncomputable def B114 (K : Nat → List SV → List SO → Out) (N nl : Nat) (x0 : SV) (os : List SO) : Out :=
 bd (boxS tab os 124 (some x0)) fun v1 o1 =>
 bd (allocS tab o1 43) fun v2 o2 =>
 bd (allocS tab o2 43) fun v3 o3 =>
 bd (ret1 (fieldAddrS tab 124 v1 0) o3) fun v4 o4 =>
 bd (ret1 (loadS tab o4 3 v4) o4) fun v5 o5 =>
 bd (ret1 (fieldAddrS tab 43 v3 0) o5) fun v6 o6 =>
 bd (storeO tab o6 3 v6 (some v5)) fun v7 o7 =>
 bd (ret1 (fieldAddrS tab 124 v1 1) o7) fun v8 o8 =>
 bd (ret1 (loadS tab o8 3 v8) o8) fun v9 o9 =>
 bd (ret1 (fieldAddrS tab 43 v3 1) o9) fun v10 o10 =>
 bd (storeO tab o10 3 v10 (some v9)) fun v11 o11 =>
 bd (ret1 (loadS tab o11 43 v3) o11) fun v12 o12 =>
 bd (storeO tab o12 43 v2 (some v12)) fun v13 o13 =>
 retV tab nl o13 (resC1 (loadS tab o13 43 v2) (some []))
noncomputable def bk115_2 (K : Nat → List SV → List SO → Out) (N nl : Nat) (m2 : Nat) : Env → List SO → Out := fun env os => loopS nl (fi115.lp 2) (fun env os nx => exec (cx K) N nl fi115 (subC c115 [1, 0, 1, 0, 0]) env os (kLoop nx (kBlock 0 (kSeq (exec (cx K) N nl fi115 (subC c115 [1, 1])) (fi115.jn 7) (kEnd tab [] nl rs115))))) m2 (killS (fi115.lp 2).alive env) os
noncomputable def L115_2 (K : Nat → List SV → List SO → Out) (N nl : Nat) (m2 : Nat) (x0 x1 x7 x8 : SV) (os : List SO) : Out := loopS nl (fi115.lp 2) (fun env os nx => exec (cx K) N nl fi115 (subC c115 [1, 0, 1, 0, 0]) env os (kLoop nx (kBlock 0 (kSeq (exec (cx K) N nl fi115 (subC c115 [1, 1])) (fi115.jn 7) (kEnd tab [] nl rs115))))) m2 [(0, x0), (1, x1), (7, x7), (8, x8)] os
noncomputable def LB115_2 (K : Nat → List SV → List SO → Out) (N nl : Nat) (m2 : Nat) (x0 x1 x7 x8 : SV) (os : List SO) : Out :=
 bd (ret1 (binS tab .lss 3 x8 x7) os) fun v2 o2 =>
 condS v2 (bd (ret1 (indexAddrS tab o2 23 x0 x8) o2) fun v3 o3 =>
 bd (ret1 (loadS tab o3 29 v3) o3) fun v4 o4 =>
 bd (calleeS ⟨tab, ownF, K⟩ o4 x1 [v4]) fun v5 o5 =>
 condS v5 (retV tab nl o5 (resC1 (some x8) (some [])))
 (bd (ret1 (binS tab .add 3 x8 (SV.v (.int .i64 1))) o5) fun v6 o6 =>
 L115_2 K N nl m2 x0 x1 x7 v6 o6))
 (retV tab nl o2 (resC1 (some (SV.v (.int .i64 (-1)))) (some [])))
noncomputable def X115 (K : Nat → List SV → List SO → Out) (N nl : Nat) (x0 x1 : SV) (os : List SO) : Out := exec (cx K) N nl fi115 c115 [(0, x0), (1, x1)] os (kEnd tab [] nl rs115)
noncomputable def B115 (K : Nat → List SV → List SO → Out) (N nl : Nat) (x0 x1 : SV) (os : List SO) : Out :=
 bd (lenO tab 23 os x0) fun v1 o1 =>
 L115_2 K N nl N x0 x1 v1 (SV.v (.int .i64 0)) o1
noncomputable def X120 (K : Nat → List SV → List SO → Out) (N nl : Nat) (x0 : SV) (os : List SO) : Out := exec (cx K) N nl fi120 c120 [(0, x0)] os (kEnd tab [] nl rs120)
noncomputable def B120 (K : Nat → List SV → List SO → Out) (N nl : Nat) (x0 : SV) (os : List SO) : Out :=
 bd (ret1 (binS tab .neq 3 x0 x0) os) fun v1 o1 =>
 retV tab nl o1 (resC1 (some v1) (some []))
theorem X3_s (K : Nat → List SV → List SO → Out) (N nl : Nat) (x0 : SV) (os : List SO) : X3 K N nl x0 os = B3 K N nl x0 os := by kernel_rfl
theorem E3 (n : Nat) (x0 : SV) (os : List SO) : callF prg (n + 1) 3 [x0] os = X3 (callF prg n) (n + 1) os.length x0 os := by kernel_rfl
theorem U3 {Q : SV → List SO → Prop} {x0 : SV} {os : List SO} {nl : Nat} (hnl : os.length = nl) (h : Ev (fun n => B3 (callF prg n) (n + 1) nl x0 os) Q) : Ev (fun n => callF prg n 3 [x0] os) Q := by subst hnl; exact ev_fun (fun n => (E3 n _ _).trans (X3_s _ _ _ _ _)) h
theorem X8_s (K : Nat → List SV → List SO → Out) (N nl : Nat) (x0 x1 : SV) (os : List SO) : X8 K N nl x0 x1 os = B8 K N nl x0 x1 os := by kernel_rfl
theorem X11_s (K : Nat → List SV → List SO → Out) (N nl : Nat) (x0 : SV) (os : List SO) : X11 K N nl x0 os = B11 K N nl x0 os := by kernel_rfl
theorem X16_s (K : Nat → List SV → List SO → Out) (N nl : Nat) (x0 x1 : SV) (os : List SO) : X16 K N nl x0 x1 os = B16 K N nl x0 x1 os := by kernel_rfl
theorem E16 (n : Nat) (x0 x1 : SV) (os : List SO) : callF prg (n + 1) 16 [x0, x1] os = X16 (callF prg n) (n + 1) os.length x0 x1 os := by kernel_rfl
theorem U16 {Q : SV → List SO → Prop} {x0 x1 : SV} {os : List SO} {nl : Nat} (hnl : os.length = nl) (h : Ev (fun n => B16 (callF prg n) (n + 1) nl x0 x1 os) Q) : Ev (fun n => callF prg n 16 [x0, x1] os) Q := by subst hnl; exact ev_fun (fun n => (E16 n _ _ _).trans (X16_s _ _ _ _ _ _)) h
theorem X17_s (K : Nat → List SV → List SO → Out) (N nl : Nat) (x0 x1 : SV) (os : List SO) : X17 K N nl x0 x1 os = B17 K N nl x0 x1 os := by kernel_rfl
theorem E17 (n : Nat) (x0 x1 : SV) (os : List SO) : callF prg (n + 1) 17 [x0, x1] os = X17 (callF prg n) (n + 1) os.length x0 x1 os := by kernel_rfl
theorem U17 {Q : SV → List SO → Prop} {x0 x1 : SV} {os : List SO} {nl : Nat} (hnl : os.length = nl) (h : Ev (fun n => B17 (callF prg n) (n + 1) nl x0 x1 os) Q) : Ev (fun n => callF prg n 17 [x0, x1] os) Q := by subst hnl; exact ev_fun (fun n => (E17 n _ _ _).trans (X17_s _ _ _ _ _ _)) h
theorem X19_s (K : Nat → List SV → List SO → Out) (N nl : Nat) (x0 : SV) (os : List SO) : X19 K N nl x0 os = B19 K N nl x0 os := by kernel_rfl
theorem E19 (n : Nat) (x0 : SV) (os : List SO) : callF prg (n + 1) 19 [x0] os = X19 (callF prg n) (n + 1) os.length x0 os := by kernel_rfl
theorem U19 {Q : SV → List SO → Prop} {x0 : SV} {os : List SO} {nl : Nat} (hnl : os.length = nl) (h : Ev (fun n => B19 (callF prg n) (n + 1) nl x0 os) Q) : Ev (fun n => callF prg n 19 [x0] os) Q := by subst hnl; exact ev_fun (fun n => (E19 n _ _).trans (X19_s _ _ _ _ _)) h
theorem L21_5_s (K : Nat → List SV → List SO → Out) (N nl : Nat) (m5 : Nat) (x0 x1 x5 : SV) (os : List SO) : L21_5 K N nl (m5 + 1) x0 x1 x5 os = LB21_5 K N nl m5 x0 x1 x5 os := by kernel_rfl
theorem UL21_5 {nl c : Nat} {Q : SV → List SO → Prop} {x0 x1 x5 : SV} {os : List SO} (h : Ev (fun n => LB21_5 (callF prg n) (n + 1) nl (n + 1 - (c + 1)) x0 x1 x5 os) Q) : Ev (fun n => L21_5 (callF prg n) (n + 1) nl (n + 1 - c) x0 x1 x5 os) Q := ev_loop (L := fun n m => L21_5 (callF prg n) (n + 1) nl m x0 x1 x5 os) (fun n m => L21_5_s _ _ _ _ _ _ _ _) h
theorem X21_s (K : Nat → List SV → List SO → Out) (N nl : Nat) (x0 x1 : SV) (os : List SO) : X21 K N nl x0 x1 os = B21 K N nl x0 x1 os := by kernel_rfl
theorem E21 (n : Nat) (x0 x1 : SV) (os : List SO) : callF prg (n + 1) 21 [x0, x1] os = X21 (callF prg n) (n + 1) os.length x0 x1 os := by kernel_rfl
theorem U21 {Q : SV → List SO → Prop} {x0 x1 : SV} {os : List SO} {nl : Nat} (hnl : os.length = nl) (h : Ev (fun n => B21 (callF prg n) (n + 1) nl x0 x1 os) Q) : Ev (fun n => callF prg n 21 [x0, x1] os) Q := by subst hnl; exact ev_fun (fun n => (E21 n _ _ _).trans (X21_s _ _ _ _ _ _)) h
theorem L22_4_s (K : Nat → List SV → List SO → Out) (N nl : Nat) (m4 : Nat) (x0 x3 : SV) (os : List SO) : L22_4 K N nl (m4 + 1) x0 x3 os = LB22_4 K N nl m4 x0 x3 os := by kernel_rfl
theorem UL22_4 {nl c : Nat} {Q : SV → List SO → Prop} {x0 x3 : SV} {os : List SO} (h : Ev (fun n => LB22_4 (callF prg n) (n + 1) nl (n + 1 - (c + 1)) x0 x3 os) Q) : Ev (fun n => L22_4 (callF prg n) (n + 1) nl (n + 1 - c) x0 x3 os) Q := ev_loop (L := fun n m => L22_4 (callF prg n) (n + 1) nl m x0 x3 os) (fun n m => L22_4_s _ _ _ _ _ _ _) h
theorem L22_7_s (K : Nat → List SV → List SO → Out) (N nl : Nat) (m4 : Nat) (m7 : Nat) (x0 x3 x4 : SV) (os : List SO) : L22_7 K N nl m4 (m7 + 1) x0 x3 x4 os = LB22_7 K N nl m4 m7 x0 x3 x4 os := by kernel_rfl
theorem UL22_7 {nl c : Nat} {Q : SV → List SO → Prop} {m4 : Nat → Nat} {x0 x3 x4 : SV} {os : List SO} (h : Ev (fun n => LB22_7 (callF prg n) (n + 1) nl (m4 n) (n + 1 - (c + 1)) x0 x3 x4 os) Q) : Ev (fun n => L22_7 (callF prg n) (n + 1) nl (m4 n) (n + 1 - c) x0 x3 x4 os) Q := ev_loop (L := fun n m => L22_7 (callF prg n) (n + 1) nl (m4 n) m x0 x3 x4 os) (fun n m => L22_7_s _ _ _ _ _ _ _ _ _) h
theorem L22_12_s (K : Nat → List SV → List SO → Out) (N nl : Nat) (m4 : Nat) (m12 : Nat) (x0 x3 x5 : SV) (os : List SO) : L22_12 K N nl m4 (m12 + 1) x0 x3 x5 os = LB22_12 K N nl m4 m12 x0 x3 x5 os := by kernel_rfl
theorem UL22_12 {nl c : Nat} {Q : SV → List SO → Prop} {m4 : Nat → Nat} {x0 x3 x5 : SV} {os : List SO} (h : Ev (fun n => LB22_12 (callF prg n) (n + 1) nl (m4 n) (n + 1 - (c + 1)) x0 x3 x5 os) Q) : Ev (fun n => L22_12 (callF prg n) (n + 1) nl (m4 n) (n + 1 - c) x0 x3 x5 os) Q := ev_loop (L := fun n m => L22_12 (callF prg n) (n + 1) nl (m4 n) m x0 x3 x5 os) (fun n m => L22_12_s _ _ _ _ _ _ _ _ _) h
theorem X22_s (K : Nat → List SV → List SO → Out) (N nl : Nat) (x0 : SV) (os : List SO) : X22 K N nl x0 os = B22 K N nl x0 os := by kernel_rfl
theorem E22 (n : Nat) (x0 : SV) (os : List SO) : callF prg (n + 1) 22 [x0] os = X22 (callF prg n) (n + 1) os.length x0 os := by kernel_rfl
theorem U22 {Q : SV → List SO → Prop} {x0 : SV} {os : List SO} {nl : Nat} (hnl : os.length = nl) (h : Ev (fun n => B22 (callF prg n) (n + 1) nl x0 os) Q) : Ev (fun n => callF prg n 22 [x0] os) Q := by subst hnl; exact ev_fun (fun n => (E22 n _ _).trans (X22_s _ _ _ _ _)) h
theorem L23_3_s (K : Nat → List SV → List SO → Out) (N nl : Nat) (m3 : Nat) (x0 x3 x4 : SV) (os : List SO) : L23_3 K N nl (m3 + 1) x0 x3 x4 os = gcB nl [x0, x3, x4] os fun xs os => G23_3 K N nl m3 xs os := by kernel_rfl
theorem UL23_3 {nl c : Nat} {Q : SV → List SO → Prop} {x0 x3 x4 : SV} {os : List SO} (h : Ev (fun n => gcB nl [x0, x3, x4] os fun xs os => G23_3 (callF prg n) (n + 1) nl (n + 1 - (c + 1)) xs os) Q) : Ev (fun n => L23_3 (callF prg n) (n + 1) nl (n + 1 - c) x0 x3 x4 os) Q := ev_loop (L := fun n m => L23_3 (callF prg n) (n + 1) nl m x0 x3 x4 os) (fun n m => L23_3_s _ _ _ _ _ _ _ _) h
theorem VL23_3 {nl : Nat} {Q : SV → List SO → Prop} {x0 x3 x4 : SV} {os : List SO} (h : Ev (fun n => gcB nl [x0, x3, x4] os fun xs os => G23_3 (callF prg n) (n + 1) nl (n + 1 - 1) xs os) Q) : Ev (fun n => L23_3 (callF prg n) (n + 1) nl (n + 1) x0 x3 x4 os) Q := UL23_3 (c := 0) h
theorem G23_3_s (K : Nat → List SV → List SO → Out) (N nl : Nat) (m3 : Nat) (x0 x3 x4 : SV) (os : List SO) : G23_3 K N nl m3 [x0, x3, x4] os = GB23_3 K N nl m3 x0 x3 x4 os := by kernel_rfl
theorem UG23_3 {nl : Nat} {Q : SV → List SO → Prop} (m3 : Nat → Nat) {x0 x3 x4 : SV} {os : List SO} (h : Ev (fun n => GB23_3 (callF prg n) (n + 1) nl (m3 n) x0 x3 x4 os) Q) : Ev (fun n => G23_3 (callF prg n) (n + 1) nl (m3 n) [x0, x3, x4] os) Q := ev_eq (fun n => G23_3_s _ _ _ _ _ _ _ _) h
theorem X23_s (K : Nat → List SV → List SO → Out) (N nl : Nat) (x0 : SV) (os : List SO) : X23 K N nl x0 os = B23 K N nl x0 os := by kernel_rfl
theorem E23 (n : Nat) (x0 : SV) (os : List SO) : callF prg (n + 1) 23 [x0] os = X23 (callF prg n) (n + 1) os.length x0 os := by kernel_rfl
theorem U23 {Q : SV → List SO → Prop} {x0 : SV} {os : List SO} {nl : Nat} (hnl : os.length = nl) (h : Ev (fun n => B23 (callF prg n) (n + 1) nl x0 os) Q) : Ev (fun n => callF prg n 23 [x0] os) Q := by subst hnl; exact ev_fun (fun n => (E23 n _ _).trans (X23_s _ _ _ _ _)) h
theorem L24_5_s (K : Nat → List SV → List SO → Out) (N nl : Nat) (m5 : Nat) (x1 x3 x11 x12 x13 : SV) (os : List SO) : L24_5 K N nl (m5 + 1) x1 x3 x11 x12 x13 os = gcB nl [x1, x3, x11, x12, x13] os fun xs os => G24_5 K N nl m5 xs os := by kernel_rfl
theorem UL24_5 {nl c : Nat} {Q : SV → List SO → Prop} {x1 x3 x11 x12 x13 : SV} {os : List SO} (h : Ev (fun n => gcB nl [x1, x3, x11, x12, x13] os fun xs os => G24_5 (callF prg n) (n + 1) nl (n + 1 - (c + 1)) xs os) Q) : Ev (fun n => L24_5 (callF prg n) (n + 1) nl (n + 1 - c) x1 x3 x11 x12 x13 os) Q := ev_loop (L := fun n m => L24_5 (callF prg n) (n + 1) nl m x1 x3 x11 x12 x13 os) (fun n m => L24_5_s _ _ _ _ _ _ _ _ _ _) h
theorem VL24_5 {nl : Nat} {Q : SV → List SO → Prop} {x1 x3 x11 x12 x13 : SV} {os : List SO} (h : Ev (fun n => gcB nl [x1, x3, x11, x12, x13] os fun xs os => G24_5 (callF prg n) (n + 1) nl (n + 1 - 1) xs os) Q) : Ev (fun n => L24_5 (callF prg n) (n + 1) nl (n + 1) x1 x3 x11 x12 x13 os) Q := UL24_5 (c := 0) h
theorem G24_5_s (K : Nat → List SV → List SO → Out) (N nl : Nat) (m5 : Nat) (x1 x3 x11 x12 x13 : SV) (os : List SO) : G24_5 K N nl m5 [x1, x3, x11, x12, x13] os = GB24_5 K N nl m5 x1 x3 x11 x12 x13 os := by kernel_rfl
theorem UG24_5 {nl : Nat} {Q : SV → List SO → Prop} (m5 : Nat → Nat) {x1 x3 x11 x12 x13 : SV} {os : List SO} (h : Ev (fun n => GB24_5 (callF prg n) (n + 1) nl (m5 n) x1 x3 x11 x12 x13 os) Q) : Ev (fun n => G24_5 (callF prg n) (n + 1) nl (m5 n) [x1, x3, x11, x12, x13] os) Q := ev_eq (fun n => G24_5_s _ _ _ _ _ _ _ _ _ _) h
theorem L24_10_s (K : Nat → List SV → List SO → Out) (N nl : Nat) (m5 : Nat) (m10 : Nat) (x1 x3 x11 x12 x13 x38 x39 x40 : SV) (os : List SO) : L24_10 K N nl m5 (m10 + 1) x1 x3 x11 x12 x13 x38 x39 x40 os = gcB nl [x1, x3, x11, x12, x13, x38, x39, x40] os fun xs os => G24_10 K N nl m5 m10 xs os := by kernel_rfl
theorem UL24_10 {nl c : Nat} {Q : SV → List SO → Prop} {m5 : Nat → Nat} {x1 x3 x11 x12 x13 x38 x39 x40 : SV} {os : List SO} (h : Ev (fun n => gcB nl [x1, x3, x11, x12, x13, x38, x39, x40] os fun xs os => G24_10 (callF prg n) (n + 1) nl (m5 n) (n + 1 - (c + 1)) xs os) Q) : Ev (fun n => L24_10 (callF prg n) (n + 1) nl (m5 n) (n + 1 - c) x1 x3 x11 x12 x13 x38 x39 x40 os) Q := ev_loop (L := fun n m => L24_10 (callF prg n) (n + 1) nl (m5 n) m x1 x3 x11 x12 x13 x38 x39 x40 os) (fun n m => L24_10_s _ _ _ _ _ _ _ _ _ _ _ _ _ _) h
theorem VL24_10 {nl : Nat} {Q : SV → List SO → Prop} {m5 : Nat → Nat} {x1 x3 x11 x12 x13 x38 x39 x40 : SV} {os : List SO} (h : Ev (fun n => gcB nl [x1, x3, x11, x12, x13, x38, x39, x40] os fun xs os => G24_10 (callF prg n) (n + 1) nl (m5 n) (n + 1 - 1) xs os) Q) : Ev (fun n => L24_10 (callF prg n) (n + 1) nl (m5 n) (n + 1) x1 x3 x11 x12 x13 x38 x39 x40 os) Q := UL24_10 (c := 0) h
theorem G24_10_s (K : Nat → List SV → List SO → Out) (N nl : Nat) (m5 : Nat) (m10 : Nat) (x1 x3 x11 x12 x13 x38 x39 x40 : SV) (os : List SO) : G24_10 K N nl m5 m10 [x1, x3, x11, x12, x13, x38, x39, x40] os = GB24_10 K N nl m5 m10 x1 x3 x11 x12 x13 x38 x39 x40 os := by kernel_rfl
theorem UG24_10 {nl : Nat} {Q : SV → List SO → Prop} {m5 : Nat → Nat} (m10 : Nat → Nat) {x1 x3 x11 x12 x13 x38 x39 x40 : SV} {os : List SO} (h : Ev (fun n => GB24_10 (callF prg n) (n + 1) nl (m5 n) (m10 n) x1 x3 x11 x12 x13 x38 x39 x40 os) Q) : Ev (fun n => G24_10 (callF prg n) (n + 1) nl (m5 n) (m10 n) [x1, x3, x11, x12, x13, x38, x39, x40] os) Q := ev_eq (fun n => G24_10_s _ _ _ _ _ _ _ _ _ _ _ _ _ _) h
theorem X24_s (K : Nat → List SV → List SO → Out) (N nl : Nat) (x0 : SV) (os : List SO) : X24 K N nl x0 os = B24 K N nl x0 os := by kernel_rfl
theorem E24 (n : Nat) (x0 : SV) (os : List SO) : callF prg (n + 1) 24 [x0] os = X24 (callF prg n) (n + 1) os.length x0 os := by kernel_rfl
theorem U24 {Q : SV → List SO → Prop} {x0 : SV} {os : List SO} {nl : Nat} (hnl : os.length = nl) (h : Ev (fun n => B24 (callF prg n) (n + 1) nl x0 os) Q) : Ev (fun n => callF prg n 24 [x0] os) Q := by subst hnl; exact ev_fun (fun n => (E24 n _ _).trans (X24_s _ _ _ _ _)) h
theorem L25_4_s (K : Nat → List SV → List SO → Out) (N nl : Nat) (m4 : Nat) (x0 x1 x5 : SV) (os : List SO) : L25_4 K N nl (m4 + 1) x0 x1 x5 os = LB25_4 K N nl m4 x0 x1 x5 os := by kernel_rfl
theorem UL25_4 {nl c : Nat} {Q : SV → List SO → Prop} {x0 x1 x5 : SV} {os : List SO} (h : Ev (fun n => LB25_4 (callF prg n) (n + 1) nl (n + 1 - (c + 1)) x0 x1 x5 os) Q) : Ev (fun n => L25_4 (callF prg n) (n + 1) nl (n + 1 - c) x0 x1 x5 os) Q := ev_loop (L := fun n m => L25_4 (callF prg n) (n + 1) nl m x0 x1 x5 os) (fun n m => L25_4_s _ _ _ _ _ _ _ _) h
theorem X25_s (K : Nat → List SV → List SO → Out) (N nl : Nat) (x0 x1 : SV) (os : List SO) : X25 K N nl x0 x1 os = B25 K N nl x0 x1 os := by kernel_rfl
theorem E25 (n : Nat) (x0 x1 : SV) (os : List SO) : callF prg (n + 1) 25 [x0, x1] os = X25 (callF prg n) (n + 1) os.length x0 x1 os := by kernel_rfl
theorem U25 {Q : SV → List SO → Prop} {x0 x1 : SV} {os : List SO} {nl : Nat} (hnl : os.length = nl) (h : Ev (fun n => B25 (callF prg n) (n + 1) nl x0 x1 os) Q) : Ev (fun n => callF prg n 25 [x0, x1] os) Q := by subst hnl; exact ev_fun (fun n => (E25 n _ _ _).trans (X25_s _ _ _ _ _ _)) h
theorem X27_s (K : Nat → List SV → List SO → Out) (N nl : Nat) (x0 x1 : SV) (os : List SO) : X27 K N nl x0 x1 os = B27 K N nl x0 x1 os := by kernel_rfl
theorem E27 (n : Nat) (x0 x1 : SV) (os : List SO) : callF prg (n + 1) 27 [x0, x1] os = X27 (callF prg n) (n + 1) os.length x0 x1 os := by kernel_rfl
theorem U27 {Q : SV → List SO → Prop} {x0 x1 : SV} {os : List SO} {nl : Nat} (hnl : os.length = nl) (h : Ev (fun n => B27 (callF prg n) (n + 1) nl x0 x1 os) Q) : Ev (fun n => callF prg n 27 [x0, x1] os) Q := by subst hnl; exact ev_fun (fun n => (E27 n _ _ _).trans (X27_s _ _ _ _ _ _)) h
theorem L28_2_s (K : Nat → List SV → List SO → Out) (N nl : Nat) (m2 : Nat) (x0 x1 x5 : SV) (os : List SO) : L28_2 K N nl (m2 + 1) x0 x1 x5 os = LB28_2 K N nl m2 x0 x1 x5 os := by kernel_rfl
theorem UL28_2 {nl c : Nat} {Q : SV → List SO → Prop} {x0 x1 x5 : SV} {os : List SO} (h : Ev (fun n => LB28_2 (callF prg n) (n + 1) nl (n + 1 - (c + 1)) x0 x1 x5 os) Q) : Ev (fun n => L28_2 (callF prg n) (n + 1) nl (n + 1 - c) x0 x1 x5 os) Q := ev_loop (L := fun n m => L28_2 (callF prg n) (n + 1) nl m x0 x1 x5 os) (fun n m => L28_2_s _ _ _ _ _ _ _ _) h
theorem VL28_2 {nl : Nat} {Q : SV → List SO → Prop} {x0 x1 x5 : SV} {os : List SO} (h : Ev (fun n => LB28_2 (callF prg n) (n + 1) nl (n + 1 - 1) x0 x1 x5 os) Q) : Ev (fun n => L28_2 (callF prg n) (n + 1) nl (n + 1) x0 x1 x5 os) Q := UL28_2 (c := 0) h
theorem X28_s (K : Nat → List SV → List SO → Out) (N nl : Nat) (x0 x1 : SV) (os : List SO) : X28 K N nl x0 x1 os = B28 K N nl x0 x1 os := by kernel_rfl
theorem E28 (n : Nat) (x0 x1 : SV) (os : List SO) : callF prg (n + 1) 28 [x0, x1] os = X28 (callF prg n) (n + 1) os.length x0 x1 os := by kernel_rfl
theorem U28 {Q : SV → List SO → Prop} {x0 x1 : SV} {os : List SO} {nl : Nat} (hnl : os.length = nl) (h : Ev (fun n => B28 (callF prg n) (n + 1) nl x0 x1 os) Q) : Ev (fun n => callF prg n 28 [x0, x1] os) Q := by subst hnl; exact ev_fun (fun n => (E28 n _ _ _).trans (X28_s _ _ _ _ _ _)) h
theorem X29_s (K : Nat → List SV → List SO → Out) (N nl : Nat) (x0 x1 : SV) (os : List SO) : X29 K N nl x0 x1 os = B29 K N nl x0 x1 os := by kernel_rfl
theorem E29 (n : Nat) (x0 x1 : SV) (os : List SO) : callF prg (n + 1) 29 [x0, x1] os = X29 (callF prg n) (n + 1) os.length x0 x1 os := by kernel_rfl
theorem U29 {Q : SV → List SO → Prop} {x0 x1 : SV} {os : List SO} {nl : Nat} (hnl : os.length = nl) (h : Ev (fun n => B29 (callF prg n) (n + 1) nl x0 x1 os) Q) : Ev (fun n => callF prg n 29 [x0, x1] os) Q := by subst hnl; exact ev_fun (fun n => (E29 n _ _ _).trans (X29_s _ _ _ _ _ _)) h
theorem X30_s (K : Nat → List SV → List SO → Out) (N nl : Nat) (x0 x1 : SV) (os : List SO) : X30 K N nl x0 x1 os = B30 K N nl x0 x1 os := by kernel_rfl
theorem E30 (n : Nat) (x0 x1 : SV) (os : List SO) : callF prg (n + 1) 30 [x0, x1] os = X30 (callF prg n) (n + 1) os.length x0 x1 os := by kernel_rfl
theorem U30 {Q : SV → List SO → Prop} {x0 x1 : SV} {os : List SO} {nl : Nat} (hnl : os.length = nl) (h : Ev (fun n => B30 (callF prg n) (n + 1) nl x0 x1 os) Q) : Ev (fun n => callF prg n 30 [x0, x1] os) Q := by subst hnl; exact ev_fun (fun n => (E30 n _ _ _).trans (X30_s _ _ _ _ _ _)) h
theorem L32_5_s (K : Nat → List SV → List SO → Out) (N nl : Nat) (m5 : Nat) (x3 x13 x14 x15 : SV) (os : List SO) : L32_5 K N nl (m5 + 1) x3 x13 x14 x15 os = gcB nl [x3, x13, x14, x15] os fun xs os => G32_5 K N nl m5 xs os := by kernel_rfl
theorem UL32_5 {nl c : Nat} {Q : SV → List SO → Prop} {x3 x13 x14 x15 : SV} {os : List SO} (h : Ev (fun n => gcB nl [x3, x13, x14, x15] os fun xs os => G32_5 (callF prg n) (n + 1) nl (n + 1 - (c + 1)) xs os) Q) : Ev (fun n => L32_5 (callF prg n) (n + 1) nl (n + 1 - c) x3 x13 x14 x15 os) Q := ev_loop (L := fun n m => L32_5 (callF prg n) (n + 1) nl m x3 x13 x14 x15 os) (fun n m => L32_5_s _ _ _ _ _ _ _ _ _) h
theorem VL32_5 {nl : Nat} {Q : SV → List SO → Prop} {x3 x13 x14 x15 : SV} {os : List SO} (h : Ev (fun n => gcB nl [x3, x13, x14, x15] os fun xs os => G32_5 (callF prg n) (n + 1) nl (n + 1 - 1) xs os) Q) : Ev (fun n => L32_5 (callF prg n) (n + 1) nl (n + 1) x3 x13 x14 x15 os) Q := UL32_5 (c := 0) h
theorem G32_5_s (K : Nat → List SV → List SO → Out) (N nl : Nat) (m5 : Nat) (x3 x13 x14 x15 : SV) (os : List SO) : G32_5 K N nl m5 [x3, x13, x14, x15] os = GB32_5 K N nl m5 x3 x13 x14 x15 os := by kernel_rfl
theorem UG32_5 {nl : Nat} {Q : SV → List SO → Prop} (m5 : Nat → Nat) {x3 x13 x14 x15 : SV} {os : List SO} (h : Ev (fun n => GB32_5 (callF prg n) (n + 1) nl (m5 n) x3 x13 x14 x15 os) Q) : Ev (fun n => G32_5 (callF prg n) (n + 1) nl (m5 n) [x3, x13, x14, x15] os) Q := ev_eq (fun n => G32_5_s _ _ _ _ _ _ _ _ _) h
theorem L32_8_s (K : Nat → List SV → List SO → Out) (N nl : Nat) (m5 : Nat) (m8 : Nat) (x3 x13 x14 x15 x20 x21 x22 : SV) (os : List SO) : L32_8 K N nl m5 (m8 + 1) x3 x13 x14 x15 x20 x21 x22 os = gcB nl [x3, x13, x14, x15, x20, x21, x22] os fun xs os => G32_8 K N nl m5 m8 xs os := by kernel_rfl
theorem UL32_8 {nl c : Nat} {Q : SV → List SO → Prop} {m5 : Nat → Nat} {x3 x13 x14 x15 x20 x21 x22 : SV} {os : List SO} (h : Ev (fun n => gcB nl [x3, x13, x14, x15, x20, x21, x22] os fun xs os => G32_8 (callF prg n) (n + 1) nl (m5 n) (n + 1 - (c + 1)) xs os) Q) : Ev (fun n => L32_8 (callF prg n) (n + 1) nl (m5 n) (n + 1 - c) x3 x13 x14 x15 x20 x21 x22 os) Q := ev_loop (L := fun n m => L32_8 (callF prg n) (n + 1) nl (m5 n) m x3 x13 x14 x15 x20 x21 x22 os) (fun n m => L32_8_s _ _ _ _ _ _ _ _ _ _ _ _ _) h
theorem VL32_8 {nl : Nat} {Q : SV → List SO → Prop} {m5 : Nat → Nat} {x3 x13 x14 x15 x20 x21 x22 : SV} {os : List SO} (h : Ev (fun n => gcB nl [x3, x13, x14, x15, x20, x21, x22] os fun xs os => G32_8 (callF prg n) (n + 1) nl (m5 n) (n + 1 - 1) xs os) Q) : Ev (fun n => L32_8 (callF prg n) (n + 1) nl (m5 n) (n + 1) x3 x13 x14 x15 x20 x21 x22 os) Q := UL32_8 (c := 0) h
theorem G32_8_s (K : Nat → List SV → List SO → Out) (N nl : Nat) (m5 : Nat) (m8 : Nat) (x3 x13 x14 x15 x20 x21 x22 : SV) (os : List SO) : G32_8 K N nl m5 m8 [x3, x13, x14, x15, x20, x21, x22] os = GB32_8 K N nl m5 m8 x3 x13 x14 x15 x20 x21 x22 os := by kernel_rfl
theorem UG32_8 {nl : Nat} {Q : SV → List SO → Prop} {m5 : Nat → Nat} (m8 : Nat → Nat) {x3 x13 x14 x15 x20 x21 x22 : SV} {os : List SO} (h : Ev (fun n => GB32_8 (callF prg n) (n + 1) nl (m5 n) (m8 n) x3 x13 x14 x15 x20 x21 x22 os) Q) : Ev (fun n => G32_8 (callF prg n) (n + 1) nl (m5 n) (m8 n) [x3, x13, x14, x15, x20, x21, x22] os) Q := ev_eq (fun n => G32_8_s _ _ _ _ _ _ _ _ _ _ _ _ _) h
theorem X32_s (K : Nat → List SV → List SO → Out) (N nl : Nat) (x0 : SV) (os : List SO) : X32 K N nl x0 os = B32 K N nl x0 os := by kernel_rfl
theorem E32 (n : Nat) (x0 : SV) (os : List SO) : callF prg (n + 1) 32 [x0] os = X32 (callF prg n) (n + 1) os.length x0 os := by kernel_rfl
theorem U32 {Q : SV → List SO → Prop} {x0 : SV} {os : List SO} {nl : Nat} (hnl : os.length = nl) (h : Ev (fun n => B32 (callF prg n) (n + 1) nl x0 os) Q) : Ev (fun n => callF prg n 32 [x0] os) Q := by subst hnl; exact ev_fun (fun n => (E32 n _ _).trans (X32_s _ _ _ _ _)) h
theorem X34_s (K : Nat → List SV → List SO → Out) (N nl : Nat) (x0 : SV) (os : List SO) : X34 K N nl x0 os = B34 K N nl x0 os := by kernel_rfl
theorem E34 (n : Nat) (x0 : SV) (os : List SO) : callF prg (n + 1) 34 [x0] os = X34 (callF prg n) (n + 1) os.length x0 os := by kernel_rfl
theorem U34 {Q : SV → List SO → Prop} {x0 : SV} {os : List SO} {nl : Nat} (hnl : os.length = nl) (h : Ev (fun n => B34 (callF prg n) (n + 1) nl x0 os) Q) : Ev (fun n => callF prg n 34 [x0] os) Q := by subst hnl; exact ev_fun (fun n => (E34 n _ _).trans (X34_s _ _ _ _ _)) h
theorem L35_4_s (K : Nat → List SV → List SO → Out) (N nl : Nat) (m4 : Nat) (x0 x1 x5 : SV) (os : List SO) : L35_4 K N nl (m4 + 1) x0 x1 x5 os = LB35_4 K N nl m4 x0 x1 x5 os := by kernel_rfl
theorem UL35_4 {nl c : Nat} {Q : SV → List SO → Prop} {x0 x1 x5 : SV} {os : List SO} (h : Ev (fun n => LB35_4 (callF prg n) (n + 1) nl (n + 1 - (c + 1)) x0 x1 x5 os) Q) : Ev (fun n => L35_4 (callF prg n) (n + 1) nl (n + 1 - c) x0 x1 x5 os) Q := ev_loop (L := fun n m => L35_4 (callF prg n) (n + 1) nl m x0 x1 x5 os) (fun n m => L35_4_s _ _ _ _ _ _ _ _) h
theorem X35_s (K : Nat → List SV → List SO → Out) (N nl : Nat) (x0 x1 : SV) (os : List SO) : X35 K N nl x0 x1 os = B35 K N nl x0 x1 os := by kernel_rfl
theorem E35 (n : Nat) (x0 x1 : SV) (os : List SO) : callF prg (n + 1) 35 [x0, x1] os = X35 (callF prg n) (n + 1) os.length x0 x1 os := by kernel_rfl
theorem U35 {Q : SV → List SO → Prop} {x0 x1 : SV} {os : List SO} {nl : Nat} (hnl : os.length = nl) (h : Ev (fun n => B35 (callF prg n) (n + 1) nl x0 x1 os) Q) : Ev (fun n => callF prg n 35 [x0, x1] os) Q := by subst hnl; exact ev_fun (fun n => (E35 n _ _ _).trans (X35_s _ _ _ _ _ _)) h
theorem L36_2_s (K : Nat → List SV → List SO → Out) (N nl : Nat) (m2 : Nat) (x0 x1 x5 : SV) (os : List SO) : L36_2 K N nl (m2 + 1) x0 x1 x5 os = LB36_2 K N nl m2 x0 x1 x5 os := by kernel_rfl
theorem UL36_2 {nl c : Nat} {Q : SV → List SO → Prop} {x0 x1 x5 : SV} {os : List SO} (h : Ev (fun n => LB36_2 (callF prg n) (n + 1) nl (n + 1 - (c + 1)) x0 x1 x5 os) Q) : Ev (fun n => L36_2 (callF prg n) (n + 1) nl (n + 1 - c) x0 x1 x5 os) Q := ev_loop (L := fun n m => L36_2 (callF prg n) (n + 1) nl m x0 x1 x5 os) (fun n m => L36_2_s _ _ _ _ _ _ _ _) h
theorem X36_s (K : Nat → List SV → List SO → Out) (N nl : Nat) (x0 x1 : SV) (os : List SO) : X36 K N nl x0 x1 os = B36 K N nl x0 x1 os := by kernel_rfl
theorem E36 (n : Nat) (x0 x1 : SV) (os : List SO) : callF prg (n + 1) 36 [x0, x1] os = X36 (callF prg n) (n + 1) os.length x0 x1 os := by kernel_rfl
theorem U36 {Q : SV → List SO → Prop} {x0 x1 : SV} {os : List SO} {nl : Nat} (hnl : os.length = nl) (h : Ev (fun n => B36 (callF prg n) (n + 1) nl x0 x1 os) Q) : Ev (fun n => callF prg n 36 [x0, x1] os) Q := by subst hnl; exact ev_fun (fun n => (E36 n _ _ _).trans (X36_s _ _ _ _ _ _)) h
theorem L37_2_s (K : Nat → List SV → List SO → Out) (N nl : Nat) (m2 : Nat) (x0 x1 x5 : SV) (os : List SO) : L37_2 K N nl (m2 + 1) x0 x1 x5 os = LB37_2 K N nl m2 x0 x1 x5 os := by kernel_rfl
theorem UL37_2 {nl c : Nat} {Q : SV → List SO → Prop} {x0 x1 x5 : SV} {os : List SO} (h : Ev (fun n => LB37_2 (callF prg n) (n + 1) nl (n + 1 - (c + 1)) x0 x1 x5 os) Q) : Ev (fun n => L37_2 (callF prg n) (n + 1) nl (n + 1 - c) x0 x1 x5 os) Q := ev_loop (L := fun n m => L37_2 (callF prg n) (n + 1) nl m x0 x1 x5 os) (fun n m => L37_2_s _ _ _ _ _ _ _ _) h
theorem X37_s (K : Nat → List SV → List SO → Out) (N nl : Nat) (x0 x1 : SV) (os : List SO) : X37 K N nl x0 x1 os = B37 K N nl x0 x1 os := by kernel_rfl
theorem E37 (n : Nat) (x0 x1 : SV) (os : List SO) : callF prg (n + 1) 37 [x0, x1] os = X37 (callF prg n) (n + 1) os.length x0 x1 os := by kernel_rfl
theorem U37 {Q : SV → List SO → Prop} {x0 x1 : SV} {os : List SO} {nl : Nat} (hnl : os.length = nl) (h : Ev (fun n => B37 (callF prg n) (n + 1) nl x0 x1 os) Q) : Ev (fun n => callF prg n 37 [x0, x1] os) Q := by subst hnl; exact ev_fun (fun n => (E37 n _ _ _).trans (X37_s _ _ _ _ _ _)) h
theorem L52_2_s (K : Nat → List SV → List SO → Out) (N nl : Nat) (m2 : Nat) (x0 x1 x4 x6 : SV) (os : List SO) : L52_2 K N nl (m2 + 1) x0 x1 x4 x6 os = gcB nl [x0, x1, x4, x6] os fun xs os => G52_2 K N nl m2 xs os := by kernel_rfl
theorem UL52_2 {nl c : Nat} {Q : SV → List SO → Prop} {x0 x1 x4 x6 : SV} {os : List SO} (h : Ev (fun n => gcB nl [x0, x1, x4, x6] os fun xs os => G52_2 (callF prg n) (n + 1) nl (n + 1 - (c + 1)) xs os) Q) : Ev (fun n => L52_2 (callF prg n) (n + 1) nl (n + 1 - c) x0 x1 x4 x6 os) Q := ev_loop (L := fun n m => L52_2 (callF prg n) (n + 1) nl m x0 x1 x4 x6 os) (fun n m => L52_2_s _ _ _ _ _ _ _ _ _) h
theorem VL52_2 {nl : Nat} {Q : SV → List SO → Prop} {x0 x1 x4 x6 : SV} {os : List SO} (h : Ev (fun n => gcB nl [x0, x1, x4, x6] os fun xs os => G52_2 (callF prg n) (n + 1) nl (n + 1 - 1) xs os) Q) : Ev (fun n => L52_2 (callF prg n) (n + 1) nl (n + 1) x0 x1 x4 x6 os) Q := UL52_2 (c := 0) h
theorem G52_2_s (K : Nat → List SV → List SO → Out) (N nl : Nat) (m2 : Nat) (x0 x1 x4 x6 : SV) (os : List SO) : G52_2 K N nl m2 [x0, x1, x4, x6] os = GB52_2 K N nl m2 x0 x1 x4 x6 os := by kernel_rfl
theorem UG52_2 {nl : Nat} {Q : SV → List SO → Prop} (m2 : Nat → Nat) {x0 x1 x4 x6 : SV} {os : List SO} (h : Ev (fun n => GB52_2 (callF prg n) (n + 1) nl (m2 n) x0 x1 x4 x6 os) Q) : Ev (fun n => G52_2 (callF prg n) (n + 1) nl (m2 n) [x0, x1, x4, x6] os) Q := ev_eq (fun n => G52_2_s _ _ _ _ _ _ _ _ _) h
theorem X52_s (K : Nat → List SV → List SO → Out) (N nl : Nat) (x0 x1 : SV) (os : List SO) : X52 K N nl x0 x1 os = B52 K N nl x0 x1 os := by kernel_rfl
theorem E52 (n : Nat) (x0 x1 : SV) (os : List SO) : callF prg (n + 1) 52 [x0, x1] os = X52 (callF prg n) (n + 1) os.length x0 x1 os := by kernel_rfl
theorem U52 {Q : SV → List SO → Prop} {x0 x1 : SV} {os : List SO} {nl : Nat} (hnl : os.length = nl) (h : Ev (fun n => B52 (callF prg n) (n + 1) nl x0 x1 os) Q) : Ev (fun n => callF prg n 52 [x0, x1] os) Q := by subst hnl; exact ev_fun (fun n => (E52 n _ _ _).trans (X52_s _ _ _ _ _ _)) h
theorem L53_2_s (K : Nat → List SV → List SO → Out) (N nl : Nat) (m2 : Nat) (x0 x5 x6 x7 : SV) (os : List SO) : L53_2 K N nl (m2 + 1) x0 x5 x6 x7 os = gcB nl [x0, x5, x6, x7] os fun xs os => G53_2 K N nl m2 xs os := by kernel_rfl
theorem UL53_2 {nl c : Nat} {Q : SV → List SO → Prop} {x0 x5 x6 x7 : SV} {os : List SO} (h : Ev (fun n => gcB nl [x0, x5, x6, x7] os fun xs os => G53_2 (callF prg n) (n + 1) nl (n + 1 - (c + 1)) xs os) Q) : Ev (fun n => L53_2 (callF prg n) (n + 1) nl (n + 1 - c) x0 x5 x6 x7 os) Q := ev_loop (L := fun n m => L53_2 (callF prg n) (n + 1) nl m x0 x5 x6 x7 os) (fun n m => L53_2_s _ _ _ _ _ _ _ _ _) h
theorem VL53_2 {nl : Nat} {Q : SV → List SO → Prop} {x0 x5 x6 x7 : SV} {os : List SO} (h : Ev (fun n => gcB nl [x0, x5, x6, x7] os fun xs os => G53_2 (callF prg n) (n + 1) nl (n + 1 - 1) xs os) Q) : Ev (fun n => L53_2 (callF prg n) (n + 1) nl (n + 1) x0 x5 x6 x7 os) Q := UL53_2 (c := 0) h
theorem G53_2_s (K : Nat → List SV → List SO → Out) (N nl : Nat) (m2 : Nat) (x0 x5 x6 x7 : SV) (os : List SO) : G53_2 K N nl m2 [x0, x5, x6, x7] os = GB53_2 K N nl m2 x0 x5 x6 x7 os := by kernel_rfl
theorem UG53_2 {nl : Nat} {Q : SV → List SO → Prop} (m2 : Nat → Nat) {x0 x5 x6 x7 : SV} {os : List SO} (h : Ev (fun n => GB53_2 (callF prg n) (n + 1) nl (m2 n) x0 x5 x6 x7 os) Q) : Ev (fun n => G53_2 (callF prg n) (n + 1) nl (m2 n) [x0, x5, x6, x7] os) Q := ev_eq (fun n => G53_2_s _ _ _ _ _ _ _ _ _) h
theorem X53_s (K : Nat → List SV → List SO → Out) (N nl : Nat) (x0 : SV) (os : List SO) : X53 K N nl x0 os = B53 K N nl x0 os := by kernel_rfl
theorem E53 (n : Nat) (x0 : SV) (os : List SO) : callF prg (n + 1) 53 [x0] os = X53 (callF prg n) (n + 1) os.length x0 os := by kernel_rfl
theorem U53 {Q : SV → List SO → Prop} {x0 : SV} {os : List SO} {nl : Nat} (hnl : os.length = nl) (h : Ev (fun n => B53 (callF prg n) (n + 1) nl x0 os) Q) : Ev (fun n => callF prg n 53 [x0] os) Q := by subst hnl; exact ev_fun (fun n => (E53 n _ _).trans (X53_s _ _ _ _ _)) h
theorem L54_3_s (K : Nat → List SV → List SO → Out) (N nl : Nat) (m3 : Nat) (x1 x5 x8 x9 x10 : SV) (os : List SO) : L54_3 K N nl (m3 + 1) x1 x5 x8 x9 x10 os = gcB nl [x1, x5, x8, x9, x10] os fun xs os => G54_3 K N nl m3 xs os := by kernel_rfl
theorem UL54_3 {nl c : Nat} {Q : SV → List SO → Prop} {x1 x5 x8 x9 x10 : SV} {os : List SO} (h : Ev (fun n => gcB nl [x1, x5, x8, x9, x10] os fun xs os => G54_3 (callF prg n) (n + 1) nl (n + 1 - (c + 1)) xs os) Q) : Ev (fun n => L54_3 (callF prg n) (n + 1) nl (n + 1 - c) x1 x5 x8 x9 x10 os) Q := ev_loop (L := fun n m => L54_3 (callF prg n) (n + 1) nl m x1 x5 x8 x9 x10 os) (fun n m => L54_3_s _ _ _ _ _ _ _ _ _ _) h
theorem VL54_3 {nl : Nat} {Q : SV → List SO → Prop} {x1 x5 x8 x9 x10 : SV} {os : List SO} (h : Ev (fun n => gcB nl [x1, x5, x8, x9, x10] os fun xs os => G54_3 (callF prg n) (n + 1) nl (n + 1 - 1) xs os) Q) : Ev (fun n => L54_3 (callF prg n) (n + 1) nl (n + 1) x1 x5 x8 x9 x10 os) Q := UL54_3 (c := 0) h
theorem G54_3_s (K : Nat → List SV → List SO → Out) (N nl : Nat) (m3 : Nat) (x1 x5 x8 x9 x10 : SV) (os : List SO) : G54_3 K N nl m3 [x1, x5, x8, x9, x10] os = GB54_3 K N nl m3 x1 x5 x8 x9 x10 os := by kernel_rfl
theorem UG54_3 {nl : Nat} {Q : SV → List SO → Prop} (m3 : Nat → Nat) {x1 x5 x8 x9 x10 : SV} {os : List SO} (h : Ev (fun n => GB54_3 (callF prg n) (n + 1) nl (m3 n) x1 x5 x8 x9 x10 os) Q) : Ev (fun n => G54_3 (callF prg n) (n + 1) nl (m3 n) [x1, x5, x8, x9, x10] os) Q := ev_eq (fun n => G54_3_s _ _ _ _ _ _ _ _ _ _) h
theorem J54_7_s (K : Nat → List SV → List SO → Out) (N nl : Nat) (m3 : Nat) (x1 x5 x8 x9 x10 : SV) (os : List SO) : J54_7 K N nl m3 x1 x5 x8 x9 x10 os = JB54_7 K N nl m3 x1 x5 x8 x9 x10 os := by kernel_rfl
theorem UJ54_7 {nl : Nat} {Q : SV → List SO → Prop} {m3 : Nat → Nat} {x1 x5 x8 x9 x10 : SV} {os : List SO} (h : Ev (fun n => JB54_7 (callF prg n) (n + 1) nl (m3 n) x1 x5 x8 x9 x10 os) Q) : Ev (fun n => J54_7 (callF prg n) (n + 1) nl (m3 n) x1 x5 x8 x9 x10 os) Q := ev_eq (fun n => J54_7_s _ _ _ _ _ _ _ _ _ _) h
theorem X54_s (K : Nat → List SV → List SO → Out) (N nl : Nat) (x0 x1 : SV) (os : List SO) : X54 K N nl x0 x1 os = B54 K N nl x0 x1 os := by kernel_rfl
theorem E54 (n : Nat) (x0 x1 : SV) (os : List SO) : callF prg (n + 1) 54 [x0, x1] os = X54 (callF prg n) (n + 1) os.length x0 x1 os := by kernel_rfl
theorem U54 {Q : SV → List SO → Prop} {x0 x1 : SV} {os : List SO} {nl : Nat} (hnl : os.length = nl) (h : Ev (fun n => B54 (callF prg n) (n + 1) nl x0 x1 os) Q) : Ev (fun n => callF prg n 54 [x0, x1] os) Q := by subst hnl; exact ev_fun (fun n => (E54 n _ _ _).trans (X54_s _ _ _ _ _ _)) h
theorem X55_s (K : Nat → List SV → List SO → Out) (N nl : Nat) (x0 : SV) (os : List SO) : X55 K N nl x0 os = B55 K N nl x0 os := by kernel_rfl
theorem E55 (n : Nat) (x0 : SV) (os : List SO) : callF prg (n + 1) 55 [x0] os = X55 (callF prg n) (n + 1) os.length x0 os := by kernel_rfl
theorem U55 {Q : SV → List SO → Prop} {x0 : SV} {os : List SO} {nl : Nat} (hnl : os.length = nl) (h : Ev (fun n => B55 (callF prg n) (n + 1) nl x0 os) Q) : Ev (fun n => callF prg n 55 [x0] os) Q := by subst hnl; exact ev_fun (fun n => (E55 n _ _).trans (X55_s _ _ _ _ _)) h
theorem L56_2_s (K : Nat → List SV → List SO → Out) (N nl : Nat) (m2 : Nat) (x0 x3 : SV) (os : List SO) : L56_2 K N nl (m2 + 1) x0 x3 os = LB56_2 K N nl m2 x0 x3 os := by kernel_rfl
theorem UL56_2 {nl c : Nat} {Q : SV → List SO → Prop} {x0 x3 : SV} {os : List SO} (h : Ev (fun n => LB56_2 (callF prg n) (n + 1) nl (n + 1 - (c + 1)) x0 x3 os) Q) : Ev (fun n => L56_2 (callF prg n) (n + 1) nl (n + 1 - c) x0 x3 os) Q := ev_loop (L := fun n m => L56_2 (callF prg n) (n + 1) nl m x0 x3 os) (fun n m => L56_2_s _ _ _ _ _ _ _) h
theorem X56_s (K : Nat → List SV → List SO → Out) (N nl : Nat) (x0 : SV) (os : List SO) : X56 K N nl x0 os = B56 K N nl x0 os := by kernel_rfl
theorem E56 (n : Nat) (x0 : SV) (os : List SO) : callF prg (n + 1) 56 [x0] os = X56 (callF prg n) (n + 1) os.length x0 os := by kernel_rfl
theorem U56 {Q : SV → List SO → Prop} {x0 : SV} {os : List SO} {nl : Nat} (hnl : os.length = nl) (h : Ev (fun n => B56 (callF prg n) (n + 1) nl x0 os) Q) : Ev (fun n => callF prg n 56 [x0] os) Q := by subst hnl; exact ev_fun (fun n => (E56 n _ _).trans (X56_s _ _ _ _ _)) h
theorem X57_s (K : Nat → List SV → List SO → Out) (N nl : Nat) (x0 x1 : SV) (os : List SO) : X57 K N nl x0 x1 os = B57 K N nl x0 x1 os := by kernel_rfl
theorem E57 (n : Nat) (x0 x1 : SV) (os : List SO) : callF prg (n + 1) 57 [x0, x1] os = X57 (callF prg n) (n + 1) os.length x0 x1 os := by kernel_rfl
theorem U57 {Q : SV → List SO → Prop} {x0 x1 : SV} {os : List SO} {nl : Nat} (hnl : os.length = nl) (h : Ev (fun n => B57 (callF prg n) (n + 1) nl x0 x1 os) Q) : Ev (fun n => callF prg n 57 [x0, x1] os) Q := by subst hnl; exact ev_fun (fun n => (E57 n _ _ _).trans (X57_s _ _ _ _ _ _)) h
theorem L58_2_s (K : Nat → List SV → List SO → Out) (N nl : Nat) (m2 : Nat) (x0 x3 : SV) (os : List SO) : L58_2 K N nl (m2 + 1) x0 x3 os = LB58_2 K N nl m2 x0 x3 os := by kernel_rfl
theorem UL58_2 {nl c : Nat} {Q : SV → List SO → Prop} {x0 x3 : SV} {os : List SO} (h : Ev (fun n => LB58_2 (callF prg n) (n + 1) nl (n + 1 - (c + 1)) x0 x3 os) Q) : Ev (fun n => L58_2 (callF prg n) (n + 1) nl (n + 1 - c) x0 x3 os) Q := ev_loop (L := fun n m => L58_2 (callF prg n) (n + 1) nl m x0 x3 os) (fun n m => L58_2_s _ _ _ _ _ _ _) h
theorem X58_s (K : Nat → List SV → List SO → Out) (N nl : Nat) (x0 : SV) (os : List SO) : X58 K N nl x0 os = B58 K N nl x0 os := by kernel_rfl
theorem E58 (n : Nat) (x0 : SV) (os : List SO) : callF prg (n + 1) 58 [x0] os = X58 (callF prg n) (n + 1) os.length x0 os := by kernel_rfl
theorem U58 {Q : SV → List SO → Prop} {x0 : SV} {os : List SO} {nl : Nat} (hnl : os.length = nl) (h : Ev (fun n => B58 (callF prg n) (n + 1) nl x0 os) Q) : Ev (fun n => callF prg n 58 [x0] os) Q := by subst hnl; exact ev_fun (fun n => (E58 n _ _).trans (X58_s _ _ _ _ _)) h
theorem X59_s (K : Nat → List SV → List SO → Out) (N nl : Nat) (x0 x1 : SV) (os : List SO) : X59 K N nl x0 x1 os = B59 K N nl x0 x1 os := by kernel_rfl
theorem E59 (n : Nat) (x0 x1 : SV) (os : List SO) : callF prg (n + 1) 59 [x0, x1] os = X59 (callF prg n) (n + 1) os.length x0 x1 os := by kernel_rfl
theorem U59 {Q : SV → List SO → Prop} {x0 x1 : SV} {os : List SO} {nl : Nat} (hnl : os.length = nl) (h : Ev (fun n => B59 (callF prg n) (n + 1) nl x0 x1 os) Q) : Ev (fun n => callF prg n 59 [x0, x1] os) Q := by subst hnl; exact ev_fun (fun n => (E59 n _ _ _).trans (X59_s _ _ _ _ _ _)) h
theorem L60_2_s (K : Nat → List SV → List SO → Out) (N nl : Nat) (m2 : Nat) (x0 x1 x2 x7 : SV) (os : List SO) : L60_2 K N nl (m2 + 1) x0 x1 x2 x7 os = LB60_2 K N nl m2 x0 x1 x2 x7 os := by kernel_rfl
theorem UL60_2 {nl c : Nat} {Q : SV → List SO → Prop} {x0 x1 x2 x7 : SV} {os : List SO} (h : Ev (fun n => LB60_2 (callF prg n) (n + 1) nl (n + 1 - (c + 1)) x0 x1 x2 x7 os) Q) : Ev (fun n => L60_2 (callF prg n) (n + 1) nl (n + 1 - c) x0 x1 x2 x7 os) Q := ev_loop (L := fun n m => L60_2 (callF prg n) (n + 1) nl m x0 x1 x2 x7 os) (fun n m => L60_2_s _ _ _ _ _ _ _ _ _) h
theorem L60_5_s (K : Nat → List SV → List SO → Out) (N nl : Nat) (m2 : Nat) (m5 : Nat) (x0 x1 x2 x7 x8 : SV) (os : List SO) : L60_5 K N nl m2 (m5 + 1) x0 x1 x2 x7 x8 os = LB60_5 K N nl m2 m5 x0 x1 x2 x7 x8 os := by kernel_rfl
theorem UL60_5 {nl c : Nat} {Q : SV → List SO → Prop} {m2 : Nat → Nat} {x0 x1 x2 x7 x8 : SV} {os : List SO} (h : Ev (fun n => LB60_5 (callF prg n) (n + 1) nl (m2 n) (n + 1 - (c + 1)) x0 x1 x2 x7 x8 os) Q) : Ev (fun n => L60_5 (callF prg n) (n + 1) nl (m2 n) (n + 1 - c) x0 x1 x2 x7 x8 os) Q := ev_loop (L := fun n m => L60_5 (callF prg n) (n + 1) nl (m2 n) m x0 x1 x2 x7 x8 os) (fun n m => L60_5_s _ _ _ _ _ _ _ _ _ _ _) h
theorem X60_s (K : Nat → List SV → List SO → Out) (N nl : Nat) (x0 x1 x2 : SV) (os : List SO) : X60 K N nl x0 x1 x2 os = B60 K N nl x0 x1 x2 os := by kernel_rfl
theorem E60 (n : Nat) (x0 x1 x2 : SV) (os : List SO) : callF prg (n + 1) 60 [x0, x1, x2] os = X60 (callF prg n) (n + 1) os.length x0 x1 x2 os := by kernel_rfl
theorem U60 {Q : SV → List SO → Prop} {x0 x1 x2 : SV} {os : List SO} {nl : Nat} (hnl : os.length = nl) (h : Ev (fun n => B60 (callF prg n) (n + 1) nl x0 x1 x2 os) Q) : Ev (fun n => callF prg n 60 [x0, x1, x2] os) Q := by subst hnl; exact ev_fun (fun n => (E60 n _ _ _ _).trans (X60_s _ _ _ _ _ _ _)) h
theorem X61_s (K : Nat → List SV → List SO → Out) (N nl : Nat) (x0 : SV) (os : List SO) : X61 K N nl x0 os = B61 K N nl x0 os := by kernel_rfl
theorem E61 (n : Nat) (x0 : SV) (os : List SO) : callF prg (n + 1) 61 [x0] os = X61 (callF prg n) (n + 1) os.length x0 os := by kernel_rfl
theorem U61 {Q : SV → List SO → Prop} {x0 : SV} {os : List SO} {nl : Nat} (hnl : os.length = nl) (h : Ev (fun n => B61 (callF prg n) (n + 1) nl x0 os) Q) : Ev (fun n => callF prg n 61 [x0] os) Q := by subst hnl; exact ev_fun (fun n => (E61 n _ _).trans (X61_s _ _ _ _ _)) h
theorem X62_s (K : Nat → List SV → List SO → Out) (N nl : Nat) (x0 x1 : SV) (os : List SO) : X62 K N nl x0 x1 os = B62 K N nl x0 x1 os := by kernel_rfl
theorem E62 (n : Nat) (x0 x1 : SV) (os : List SO) : callF prg (n + 1) 62 [x0, x1] os = X62 (callF prg n) (n + 1) os.length x0 x1 os := by kernel_rfl
theorem U62 {Q : SV → List SO → Prop} {x0 x1 : SV} {os : List SO} {nl : Nat} (hnl : os.length = nl) (h : Ev (fun n => B62 (callF prg n) (n + 1) nl x0 x1 os) Q) : Ev (fun n => callF prg n 62 [x0, x1] os) Q := by subst hnl; exact ev_fun (fun n => (E62 n _ _ _).trans (X62_s _ _ _ _ _ _)) h
theorem X63_s (K : Nat → List SV → List SO → Out) (N nl : Nat) (x0 x1 : SV) (os : List SO) : X63 K N nl x0 x1 os = B63 K N nl x0 x1 os := by kernel_rfl
theorem E63 (n : Nat) (x0 x1 : SV) (os : List SO) : callF prg (n + 1) 63 [x0, x1] os = X63 (callF prg n) (n + 1) os.length x0 x1 os := by kernel_rfl
theorem U63 {Q : SV → List SO → Prop} {x0 x1 : SV} {os : List SO} {nl : Nat} (hnl : os.length = nl) (h : Ev (fun n => B63 (callF prg n) (n + 1) nl x0 x1 os) Q) : Ev (fun n => callF prg n 63 [x0, x1] os) Q := by subst hnl; exact ev_fun (fun n => (E63 n _ _ _).trans (X63_s _ _ _ _ _ _)) h
theorem X64_s (K : Nat → List SV → List SO → Out) (N nl : Nat) (x0 x1 : SV) (os : List SO) : X64 K N nl x0 x1 os = B64 K N nl x0 x1 os := by kernel_rfl
theorem E64 (n : Nat) (x0 x1 : SV) (os : List SO) : callF prg (n + 1) 64 [x0, x1] os = X64 (callF prg n) (n + 1) os.length x0 x1 os := by kernel_rfl
theorem U64 {Q : SV → List SO → Prop} {x0 x1 : SV} {os : List SO} {nl : Nat} (hnl : os.length = nl) (h : Ev (fun n => B64 (callF prg n) (n + 1) nl x0 x1 os) Q) : Ev (fun n => callF prg n 64 [x0, x1] os) Q := by subst hnl; exact ev_fun (fun n => (E64 n _ _ _).trans (X64_s _ _ _ _ _ _)) h
theorem L67_4_s (K : Nat → List SV → List SO → Out) (N nl : Nat) (m4 : Nat) (x0 x1 x5 : SV) (os : List SO) : L67_4 K N nl (m4 + 1) x0 x1 x5 os = LB67_4 K N nl m4 x0 x1 x5 os := by kernel_rfl
theorem UL67_4 {nl c : Nat} {Q : SV → List SO → Prop} {x0 x1 x5 : SV} {os : List SO} (h : Ev (fun n => LB67_4 (callF prg n) (n + 1) nl (n + 1 - (c + 1)) x0 x1 x5 os) Q) : Ev (fun n => L67_4 (callF prg n) (n + 1) nl (n + 1 - c) x0 x1 x5 os) Q := ev_loop (L := fun n m => L67_4 (callF prg n) (n + 1) nl m x0 x1 x5 os) (fun n m => L67_4_s _ _ _ _ _ _ _ _) h
theorem X67_s (K : Nat → List SV → List SO → Out) (N nl : Nat) (x0 x1 : SV) (os : List SO) : X67 K N nl x0 x1 os = B67 K N nl x0 x1 os := by kernel_rfl
theorem E67 (n : Nat) (x0 x1 : SV) (os : List SO) : callF prg (n + 1) 67 [x0, x1] os = X67 (callF prg n) (n + 1) os.length x0 x1 os := by kernel_rfl
theorem U67 {Q : SV → List SO → Prop} {x0 x1 : SV} {os : List SO} {nl : Nat} (hnl : os.length = nl) (h : Ev (fun n => B67 (callF prg n) (n + 1) nl x0 x1 os) Q) : Ev (fun n => callF prg n 67 [x0, x1] os) Q := by subst hnl; exact ev_fun (fun n => (E67 n _ _ _).trans (X67_s _ _ _ _ _ _)) h
theorem L68_4_s (K : Nat → List SV → List SO → Out) (N nl : Nat) (m4 : Nat) (x0 x1 x5 : SV) (os : List SO) : L68_4 K N nl (m4 + 1) x0 x1 x5 os = LB68_4 K N nl m4 x0 x1 x5 os := by kernel_rfl
theorem UL68_4 {nl c : Nat} {Q : SV → List SO → Prop} {x0 x1 x5 : SV} {os : List SO} (h : Ev (fun n => LB68_4 (callF prg n) (n + 1) nl (n + 1 - (c + 1)) x0 x1 x5 os) Q) : Ev (fun n => L68_4 (callF prg n) (n + 1) nl (n + 1 - c) x0 x1 x5 os) Q := ev_loop (L := fun n m => L68_4 (callF prg n) (n + 1) nl m x0 x1 x5 os) (fun n m => L68_4_s _ _ _ _ _ _ _ _) h
theorem X68_s (K : Nat → List SV → List SO → Out) (N nl : Nat) (x0 x1 : SV) (os : List SO) : X68 K N nl x0 x1 os = B68 K N nl x0 x1 os := by kernel_rfl
theorem E68 (n : Nat) (x0 x1 : SV) (os : List SO) : callF prg (n + 1) 68 [x0, x1] os = X68 (callF prg n) (n + 1) os.length x0 x1 os := by kernel_rfl
theorem U68 {Q : SV → List SO → Prop} {x0 x1 : SV} {os : List SO} {nl : Nat} (hnl : os.length = nl) (h : Ev (fun n => B68 (callF prg n) (n + 1) nl x0 x1 os) Q) : Ev (fun n => callF prg n 68 [x0, x1] os) Q := by subst hnl; exact ev_fun (fun n => (E68 n _ _ _).trans (X68_s _ _ _ _ _ _)) h
theorem L69_2_s (K : Nat → List SV → List SO → Out) (N nl : Nat) (m2 : Nat) (x0 x1 x5 : SV) (os : List SO) : L69_2 K N nl (m2 + 1) x0 x1 x5 os = LB69_2 K N nl m2 x0 x1 x5 os := by kernel_rfl
theorem UL69_2 {nl c : Nat} {Q : SV → List SO → Prop} {x0 x1 x5 : SV} {os : List SO} (h : Ev (fun n => LB69_2 (callF prg n) (n + 1) nl (n + 1 - (c + 1)) x0 x1 x5 os) Q) : Ev (fun n => L69_2 (callF prg n) (n + 1) nl (n + 1 - c) x0 x1 x5 os) Q := ev_loop (L := fun n m => L69_2 (callF prg n) (n + 1) nl m x0 x1 x5 os) (fun n m => L69_2_s _ _ _ _ _ _ _ _) h
theorem VL69_2 {nl : Nat} {Q : SV → List SO → Prop} {x0 x1 x5 : SV} {os : List SO} (h : Ev (fun n => LB69_2 (callF prg n) (n + 1) nl (n + 1 - 1) x0 x1 x5 os) Q) : Ev (fun n => L69_2 (callF prg n) (n + 1) nl (n + 1) x0 x1 x5 os) Q := UL69_2 (c := 0) h
theorem X69_s (K : Nat → List SV → List SO → Out) (N nl : Nat) (x0 x1 : SV) (os : List SO) : X69 K N nl x0 x1 os = B69 K N nl x0 x1 os := by kernel_rfl
theorem E69 (n : Nat) (x0 x1 : SV) (os : List SO) : callF prg (n + 1) 69 [x0, x1] os = X69 (callF prg n) (n + 1) os.length x0 x1 os := by kernel_rfl
theorem U69 {Q : SV → List SO → Prop} {x0 x1 : SV} {os : List SO} {nl : Nat} (hnl : os.length = nl) (h : Ev (fun n => B69 (callF prg n) (n + 1) nl x0 x1 os) Q) : Ev (fun n => callF prg n 69 [x0, x1] os) Q := by subst hnl; exact ev_fun (fun n => (E69 n _ _ _).trans (X69_s _ _ _ _ _ _)) h
theorem L70_2_s (K : Nat → List SV → List SO → Out) (N nl : Nat) (m2 : Nat) (x0 x1 x5 : SV) (os : List SO) : L70_2 K N nl (m2 + 1) x0 x1 x5 os = LB70_2 K N nl m2 x0 x1 x5 os := by kernel_rfl
theorem UL70_2 {nl c : Nat} {Q : SV → List SO → Prop} {x0 x1 x5 : SV} {os : List SO} (h : Ev (fun n => LB70_2 (callF prg n) (n + 1) nl (n + 1 - (c + 1)) x0 x1 x5 os) Q) : Ev (fun n => L70_2 (callF prg n) (n + 1) nl (n + 1 - c) x0 x1 x5 os) Q := ev_loop (L := fun n m => L70_2 (callF prg n) (n + 1) nl m x0 x1 x5 os) (fun n m => L70_2_s _ _ _ _ _ _ _ _) h
theorem VL70_2 {nl : Nat} {Q : SV → List SO → Prop} {x0 x1 x5 : SV} {os : List SO} (h : Ev (fun n => LB70_2 (callF prg n) (n + 1) nl (n + 1 - 1) x0 x1 x5 os) Q) : Ev (fun n => L70_2 (callF prg n) (n + 1) nl (n + 1) x0 x1 x5 os) Q := UL70_2 (c := 0) h
theorem X70_s (K : Nat → List SV → List SO → Out) (N nl : Nat) (x0 x1 : SV) (os : List SO) : X70 K N nl x0 x1 os = B70 K N nl x0 x1 os := by kernel_rfl
theorem E70 (n : Nat) (x0 x1 : SV) (os : List SO) : callF prg (n + 1) 70 [x0, x1] os = X70 (callF prg n) (n + 1) os.length x0 x1 os := by kernel_rfl
theorem U70 {Q : SV → List SO → Prop} {x0 x1 : SV} {os : List SO} {nl : Nat} (hnl : os.length = nl) (h : Ev (fun n => B70 (callF prg n) (n + 1) nl x0 x1 os) Q) : Ev (fun n => callF prg n 70 [x0, x1] os) Q := by subst hnl; exact ev_fun (fun n => (E70 n _ _ _).trans (X70_s _ _ _ _ _ _)) h
theorem L71_2_s (K : Nat → List SV → List SO → Out) (N nl : Nat) (m2 : Nat) (x0 x1 x5 : SV) (os : List SO) : L71_2 K N nl (m2 + 1) x0 x1 x5 os = LB71_2 K N nl m2 x0 x1 x5 os := by kernel_rfl
theorem UL71_2 {nl c : Nat} {Q : SV → List SO → Prop} {x0 x1 x5 : SV} {os : List SO} (h : Ev (fun n => LB71_2 (callF prg n) (n + 1) nl (n + 1 - (c + 1)) x0 x1 x5 os) Q) : Ev (fun n => L71_2 (callF prg n) (n + 1) nl (n + 1 - c) x0 x1 x5 os) Q := ev_loop (L := fun n m => L71_2 (callF prg n) (n + 1) nl m x0 x1 x5 os) (fun n m => L71_2_s _ _ _ _ _ _ _ _) h
theorem X71_s (K : Nat → List SV → List SO → Out) (N nl : Nat) (x0 x1 : SV) (os : List SO) : X71 K N nl x0 x1 os = B71 K N nl x0 x1 os := by kernel_rfl
theorem E71 (n : Nat) (x0 x1 : SV) (os : List SO) : callF prg (n + 1) 71 [x0, x1] os = X71 (callF prg n) (n + 1) os.length x0 x1 os := by kernel_rfl
theorem U71 {Q : SV → List SO → Prop} {x0 x1 : SV} {os : List SO} {nl : Nat} (hnl : os.length = nl) (h : Ev (fun n => B71 (callF prg n) (n + 1) nl x0 x1 os) Q) : Ev (fun n => callF prg n 71 [x0, x1] os) Q := by subst hnl; exact ev_fun (fun n => (E71 n _ _ _).trans (X71_s _ _ _ _ _ _)) h
theorem L72_2_s (K : Nat → List SV → List SO → Out) (N nl : Nat) (m2 : Nat) (x0 x1 x5 : SV) (os : List SO) : L72_2 K N nl (m2 + 1) x0 x1 x5 os = LB72_2 K N nl m2 x0 x1 x5 os := by kernel_rfl
theorem UL72_2 {nl c : Nat} {Q : SV → List SO → Prop} {x0 x1 x5 : SV} {os : List SO} (h : Ev (fun n => LB72_2 (callF prg n) (n + 1) nl (n + 1 - (c + 1)) x0 x1 x5 os) Q) : Ev (fun n => L72_2 (callF prg n) (n + 1) nl (n + 1 - c) x0 x1 x5 os) Q := ev_loop (L := fun n m => L72_2 (callF prg n) (n + 1) nl m x0 x1 x5 os) (fun n m => L72_2_s _ _ _ _ _ _ _ _) h
theorem X72_s (K : Nat → List SV → List SO → Out) (N nl : Nat) (x0 x1 : SV) (os : List SO) : X72 K N nl x0 x1 os = B72 K N nl x0 x1 os := by kernel_rfl
theorem E72 (n : Nat) (x0 x1 : SV) (os : List SO) : callF prg (n + 1) 72 [x0, x1] os = X72 (callF prg n) (n + 1) os.length x0 x1 os := by kernel_rfl
theorem U72 {Q : SV → List SO → Prop} {x0 x1 : SV} {os : List SO} {nl : Nat} (hnl : os.length = nl) (h : Ev (fun n => B72 (callF prg n) (n + 1) nl x0 x1 os) Q) : Ev (fun n => callF prg n 72 [x0, x1] os) Q := by subst hnl; exact ev_fun (fun n => (E72 n _ _ _).trans (X72_s _ _ _ _ _ _)) h
theorem L74_3_s (K : Nat → List SV → List SO → Out) (N nl : Nat) (m3 : Nat) (x0 x3 x4 : SV) (os : List SO) : L74_3 K N nl (m3 + 1) x0 x3 x4 os = LB74_3 K N nl m3 x0 x3 x4 os := by kernel_rfl
theorem UL74_3 {nl c : Nat} {Q : SV → List SO → Prop} {x0 x3 x4 : SV} {os : List SO} (h : Ev (fun n => LB74_3 (callF prg n) (n + 1) nl (n + 1 - (c + 1)) x0 x3 x4 os) Q) : Ev (fun n => L74_3 (callF prg n) (n + 1) nl (n + 1 - c) x0 x3 x4 os) Q := ev_loop (L := fun n m => L74_3 (callF prg n) (n + 1) nl m x0 x3 x4 os) (fun n m => L74_3_s _ _ _ _ _ _ _ _) h
theorem VL74_3 {nl : Nat} {Q : SV → List SO → Prop} {x0 x3 x4 : SV} {os : List SO} (h : Ev (fun n => LB74_3 (callF prg n) (n + 1) nl (n + 1 - 1) x0 x3 x4 os) Q) : Ev (fun n => L74_3 (callF prg n) (n + 1) nl (n + 1) x0 x3 x4 os) Q := UL74_3 (c := 0) h
theorem L74_7_s (K : Nat → List SV → List SO → Out) (N nl : Nat) (m7 : Nat) (x0 x3 x5 : SV) (os : List SO) : L74_7 K N nl (m7 + 1) x0 x3 x5 os = LB74_7 K N nl m7 x0 x3 x5 os := by kernel_rfl
theorem UL74_7 {nl c : Nat} {Q : SV → List SO → Prop} {x0 x3 x5 : SV} {os : List SO} (h : Ev (fun n => LB74_7 (callF prg n) (n + 1) nl (n + 1 - (c + 1)) x0 x3 x5 os) Q) : Ev (fun n => L74_7 (callF prg n) (n + 1) nl (n + 1 - c) x0 x3 x5 os) Q := ev_loop (L := fun n m => L74_7 (callF prg n) (n + 1) nl m x0 x3 x5 os) (fun n m => L74_7_s _ _ _ _ _ _ _ _) h
theorem L74_10_s (K : Nat → List SV → List SO → Out) (N nl : Nat) (m7 : Nat) (m10 : Nat) (x0 x3 x5 x6 : SV) (os : List SO) : L74_10 K N nl m7 (m10 + 1) x0 x3 x5 x6 os = LB74_10 K N nl m7 m10 x0 x3 x5 x6 os := by kernel_rfl
theorem UL74_10 {nl c : Nat} {Q : SV → List SO → Prop} {m7 : Nat → Nat} {x0 x3 x5 x6 : SV} {os : List SO} (h : Ev (fun n => LB74_10 (callF prg n) (n + 1) nl (m7 n) (n + 1 - (c + 1)) x0 x3 x5 x6 os) Q) : Ev (fun n => L74_10 (callF prg n) (n + 1) nl (m7 n) (n + 1 - c) x0 x3 x5 x6 os) Q := ev_loop (L := fun n m => L74_10 (callF prg n) (n + 1) nl (m7 n) m x0 x3 x5 x6 os) (fun n m => L74_10_s _ _ _ _ _ _ _ _ _ _) h
theorem X74_s (K : Nat → List SV → List SO → Out) (N nl : Nat) (x0 : SV) (os : List SO) : X74 K N nl x0 os = B74 K N nl x0 os := by kernel_rfl
theorem E74 (n : Nat) (x0 : SV) (os : List SO) : callF prg (n + 1) 74 [x0] os = X74 (callF prg n) (n + 1) os.length x0 os := by kernel_rfl
theorem U74 {Q : SV → List SO → Prop} {x0 : SV} {os : List SO} {nl : Nat} (hnl : os.length = nl) (h : Ev (fun n => B74 (callF prg n) (n + 1) nl x0 os) Q) : Ev (fun n => callF prg n 74 [x0] os) Q := by subst hnl; exact ev_fun (fun n => (E74 n _ _).trans (X74_s _ _ _ _ _)) h
theorem X77_s (K : Nat → List SV → List SO → Out) (N nl : Nat) (x0 x1 x2 : SV) (os : List SO) : X77 K N nl x0 x1 x2 os = B77 K N nl x0 x1 x2 os := by kernel_rfl
theorem E77 (n : Nat) (x0 x1 x2 : SV) (os : List SO) : callF prg (n + 1) 77 [x0, x1, x2] os = X77 (callF prg n) (n + 1) os.length x0 x1 x2 os := by kernel_rfl
theorem U77 {Q : SV → List SO → Prop} {x0 x1 x2 : SV} {os : List SO} {nl : Nat} (hnl : os.length = nl) (h : Ev (fun n => B77 (callF prg n) (n + 1) nl x0 x1 x2 os) Q) : Ev (fun n => callF prg n 77 [x0, x1, x2] os) Q := by subst hnl; exact ev_fun (fun n => (E77 n _ _ _ _).trans (X77_s _ _ _ _ _ _ _)) h
theorem X80_s (K : Nat → List SV → List SO → Out) (N nl : Nat) (x0 x1 x2 : SV) (os : List SO) : X80 K N nl x0 x1 x2 os = B80 K N nl x0 x1 x2 os := by kernel_rfl
theorem E80 (n : Nat) (x0 x1 x2 : SV) (os : List SO) : callF prg (n + 1) 80 [x0, x1, x2] os = X80 (callF prg n) (n + 1) os.length x0 x1 x2 os := by kernel_rfl
theorem U80 {Q : SV → List SO → Prop} {x0 x1 x2 : SV} {os : List SO} {nl : Nat} (hnl : os.length = nl) (h : Ev (fun n => B80 (callF prg n) (n + 1) nl x0 x1 x2 os) Q) : Ev (fun n => callF prg n 80 [x0, x1, x2] os) Q := by subst hnl; exact ev_fun (fun n => (E80 n _ _ _ _).trans (X80_s _ _ _ _ _ _ _)) h
theorem X85_s (K : Nat → List SV → List SO → Out) (N nl : Nat) (x0 : SV) (os : List SO) : X85 K N nl x0 os = B85 K N nl x0 os := by kernel_rfl
theorem E85 (n : Nat) (x0 : SV) (os : List SO) : callF prg (n + 1) 85 [x0] os = X85 (callF prg n) (n + 1) os.length x0 os := by kernel_rfl
theorem U85 {Q : SV → List SO → Prop} {x0 : SV} {os : List SO} {nl : Nat} (hnl : os.length = nl) (h : Ev (fun n => B85 (callF prg n) (n + 1) nl x0 os) Q) : Ev (fun n => callF prg n 85 [x0] os) Q := by subst hnl; exact ev_fun (fun n => (E85 n _ _).trans (X85_s _ _ _ _ _)) h
theorem L86_4_s (K : Nat → List SV → List SO → Out) (N nl : Nat) (m4 : Nat) (x1 x30 x31 x32 : SV) (os : List SO) : L86_4 K N nl (m4 + 1) x1 x30 x31 x32 os = gcB nl [x1, x30, x31, x32] os fun xs os => G86_4 K N nl m4 xs os := by kernel_rfl
theorem UL86_4 {nl c : Nat} {Q : SV → List SO → Prop} {x1 x30 x31 x32 : SV} {os : List SO} (h : Ev (fun n => gcB nl [x1, x30, x31, x32] os fun xs os => G86_4 (callF prg n) (n + 1) nl (n + 1 - (c + 1)) xs os) Q) : Ev (fun n => L86_4 (callF prg n) (n + 1) nl (n + 1 - c) x1 x30 x31 x32 os) Q := ev_loop (L := fun n m => L86_4 (callF prg n) (n + 1) nl m x1 x30 x31 x32 os) (fun n m => L86_4_s _ _ _ _ _ _ _ _ _) h
theorem VL86_4 {nl : Nat} {Q : SV → List SO → Prop} {x1 x30 x31 x32 : SV} {os : List SO} (h : Ev (fun n => gcB nl [x1, x30, x31, x32] os fun xs os => G86_4 (callF prg n) (n + 1) nl (n + 1 - 1) xs os) Q) : Ev (fun n => L86_4 (callF prg n) (n + 1) nl (n + 1) x1 x30 x31 x32 os) Q := UL86_4 (c := 0) h
theorem G86_4_s (K : Nat → List SV → List SO → Out) (N nl : Nat) (m4 : Nat) (x1 x30 x31 x32 : SV) (os : List SO) : G86_4 K N nl m4 [x1, x30, x31, x32] os = GB86_4 K N nl m4 x1 x30 x31 x32 os := by kernel_rfl
theorem UG86_4 {nl : Nat} {Q : SV → List SO → Prop} (m4 : Nat → Nat) {x1 x30 x31 x32 : SV} {os : List SO} (h : Ev (fun n => GB86_4 (callF prg n) (n + 1) nl (m4 n) x1 x30 x31 x32 os) Q) : Ev (fun n => G86_4 (callF prg n) (n + 1) nl (m4 n) [x1, x30, x31, x32] os) Q := ev_eq (fun n => G86_4_s _ _ _ _ _ _ _ _ _) h
theorem L86_10_s (K : Nat → List SV → List SO → Out) (N nl : Nat) (m10 : Nat) (x1 x65 x66 x67 : SV) (os : List SO) : L86_10 K N nl (m10 + 1) x1 x65 x66 x67 os = gcB nl [x1, x65, x66, x67] os fun xs os => G86_10 K N nl m10 xs os := by kernel_rfl
theorem UL86_10 {nl c : Nat} {Q : SV → List SO → Prop} {x1 x65 x66 x67 : SV} {os : List SO} (h : Ev (fun n => gcB nl [x1, x65, x66, x67] os fun xs os => G86_10 (callF prg n) (n + 1) nl (n + 1 - (c + 1)) xs os) Q) : Ev (fun n => L86_10 (callF prg n) (n + 1) nl (n + 1 - c) x1 x65 x66 x67 os) Q := ev_loop (L := fun n m => L86_10 (callF prg n) (n + 1) nl m x1 x65 x66 x67 os) (fun n m => L86_10_s _ _ _ _ _ _ _ _ _) h
theorem VL86_10 {nl : Nat} {Q : SV → List SO → Prop} {x1 x65 x66 x67 : SV} {os : List SO} (h : Ev (fun n => gcB nl [x1, x65, x66, x67] os fun xs os => G86_10 (callF prg n) (n + 1) nl (n + 1 - 1) xs os) Q) : Ev (fun n => L86_10 (callF prg n) (n + 1) nl (n + 1) x1 x65 x66 x67 os) Q := UL86_10 (c := 0) h
theorem G86_10_s (K : Nat → List SV → List SO → Out) (N nl : Nat) (m10 : Nat) (x1 x65 x66 x67 : SV) (os : List SO) : G86_10 K N nl m10 [x1, x65, x66, x67] os = GB86_10 K N nl m10 x1 x65 x66 x67 os := by kernel_rfl
theorem UG86_10 {nl : Nat} {Q : SV → List SO → Prop} (m10 : Nat → Nat) {x1 x65 x66 x67 : SV} {os : List SO} (h : Ev (fun n => GB86_10 (callF prg n) (n + 1) nl (m10 n) x1 x65 x66 x67 os) Q) : Ev (fun n => G86_10 (callF prg n) (n + 1) nl (m10 n) [x1, x65, x66, x67] os) Q := ev_eq (fun n => G86_10_s _ _ _ _ _ _ _ _ _) h
theorem X86_s (K : Nat → List SV → List SO → Out) (N nl : Nat) (x0 : SV) (os : List SO) : X86 K N nl x0 os = B86 K N nl x0 os := by kernel_rfl
theorem E86 (n : Nat) (x0 : SV) (os : List SO) : callF prg (n + 1) 86 [x0] os = X86 (callF prg n) (n + 1) os.length x0 os := by kernel_rfl
theorem U86 {Q : SV → List SO → Prop} {x0 : SV} {os : List SO} {nl : Nat} (hnl : os.length = nl) (h : Ev (fun n => B86 (callF prg n) (n + 1) nl x0 os) Q) : Ev (fun n => callF prg n 86 [x0] os) Q := by subst hnl; exact ev_fun (fun n => (E86 n _ _).trans (X86_s _ _ _ _ _)) h
theorem X87_s (K : Nat → List SV → List SO → Out) (N nl : Nat) (x0 x1 : SV) (os : List SO) : X87 K N nl x0 x1 os = B87 K N nl x0 x1 os := by kernel_rfl
theorem E87 (n : Nat) (x0 x1 : SV) (os : List SO) : callF prg (n + 1) 87 [x0, x1] os = X87 (callF prg n) (n + 1) os.length x0 x1 os := by kernel_rfl
theorem U87 {Q : SV → List SO → Prop} {x0 x1 : SV} {os : List SO} {nl : Nat} (hnl : os.length = nl) (h : Ev (fun n => B87 (callF prg n) (n + 1) nl x0 x1 os) Q) : Ev (fun n => callF prg n 87 [x0, x1] os) Q := by subst hnl; exact ev_fun (fun n => (E87 n _ _ _).trans (X87_s _ _ _ _ _ _)) h
theorem E88 (n : Nat) (xs : List SV) (os : List SO) : callF prg (n + 1) 88 xs os = cloneS 2 16 xs os := by kernel_rfl
theorem E89 (n : Nat) (xs : List SV) (os : List SO) : callF prg (n + 1) 89 xs os = cloneS 2 16 xs os := by kernel_rfl
theorem X90_s (K : Nat → List SV → List SO → Out) (N nl : Nat) (x0 : SV) (os : List SO) : X90 K N nl x0 os = B90 K N nl x0 os := by kernel_rfl
theorem E90 (n : Nat) (x0 : SV) (os : List SO) : callF prg (n + 1) 90 [x0] os = X90 (callF prg n) (n + 1) os.length x0 os := by kernel_rfl
theorem U90 {Q : SV → List SO → Prop} {x0 : SV} {os : List SO} {nl : Nat} (hnl : os.length = nl) (h : Ev (fun n => B90 (callF prg n) (n + 1) nl x0 os) Q) : Ev (fun n => callF prg n 90 [x0] os) Q := by subst hnl; exact ev_fun (fun n => (E90 n _ _).trans (X90_s _ _ _ _ _)) h
theorem X91_s (K : Nat → List SV → List SO → Out) (N nl : Nat) (x0 x1 x2 x3 : SV) (os : List SO) : X91 K N nl x0 x1 x2 x3 os = B91 K N nl x0 x1 x2 x3 os := by kernel_rfl
theorem E91 (n : Nat) (x0 x1 x2 x3 : SV) (os : List SO) : callF prg (n + 1) 91 [x0, x1, x2, x3] os = X91 (callF prg n) (n + 1) os.length x0 x1 x2 x3 os := by kernel_rfl
theorem U91 {Q : SV → List SO → Prop} {x0 x1 x2 x3 : SV} {os : List SO} {nl : Nat} (hnl : os.length = nl) (h : Ev (fun n => B91 (callF prg n) (n + 1) nl x0 x1 x2 x3 os) Q) : Ev (fun n => callF prg n 91 [x0, x1, x2, x3] os) Q := by subst hnl; exact ev_fun (fun n => (E91 n _ _ _ _ _).trans (X91_s _ _ _ _ _ _ _ _)) h
theorem X92_s (K : Nat → List SV → List SO → Out) (N nl : Nat) (x0 x1 : SV) (os : List SO) : X92 K N nl x0 x1 os = B92 K N nl x0 x1 os := by kernel_rfl
theorem E92 (n : Nat) (x0 x1 : SV) (os : List SO) : callF prg (n + 1) 92 [x0, x1] os = X92 (callF prg n) (n + 1) os.length x0 x1 os := by kernel_rfl
theorem U92 {Q : SV → List SO → Prop} {x0 x1 : SV} {os : List SO} {nl : Nat} (hnl : os.length = nl) (h : Ev (fun n => B92 (callF prg n) (n + 1) nl x0 x1 os) Q) : Ev (fun n => callF prg n 92 [x0, x1] os) Q := by subst hnl; exact ev_fun (fun n => (E92 n _ _ _).trans (X92_s _ _ _ _ _ _)) h
theorem X93_s (K : Nat → List SV → List SO → Out) (N nl : Nat) (x0 x1 : SV) (os : List SO) : X93 K N nl x0 x1 os = B93 K N nl x0 x1 os := by kernel_rfl
theorem E93 (n : Nat) (x0 x1 : SV) (os : List SO) : callF prg (n + 1) 93 [x0, x1] os = X93 (callF prg n) (n + 1) os.length x0 x1 os := by kernel_rfl
theorem U93 {Q : SV → List SO → Prop} {x0 x1 : SV} {os : List SO} {nl : Nat} (hnl : os.length = nl) (h : Ev (fun n => B93 (callF prg n) (n + 1) nl x0 x1 os) Q) : Ev (fun n => callF prg n 93 [x0, x1] os) Q := by subst hnl; exact ev_fun (fun n => (E93 n _ _ _).trans (X93_s _ _ _ _ _ _)) h
theorem L94_3_s (K : Nat → List SV → List SO → Out) (N nl : Nat) (m3 : Nat) (x0 x3 x4 : SV) (os : List SO) : L94_3 K N nl (m3 + 1) x0 x3 x4 os = LB94_3 K N nl m3 x0 x3 x4 os := by kernel_rfl
theorem UL94_3 {nl c : Nat} {Q : SV → List SO → Prop} {x0 x3 x4 : SV} {os : List SO} (h : Ev (fun n => LB94_3 (callF prg n) (n + 1) nl (n + 1 - (c + 1)) x0 x3 x4 os) Q) : Ev (fun n => L94_3 (callF prg n) (n + 1) nl (n + 1 - c) x0 x3 x4 os) Q := ev_loop (L := fun n m => L94_3 (callF prg n) (n + 1) nl m x0 x3 x4 os) (fun n m => L94_3_s _ _ _ _ _ _ _ _) h
theorem X94_s (K : Nat → List SV → List SO → Out) (N nl : Nat) (x0 : SV) (os : List SO) : X94 K N nl x0 os = B94 K N nl x0 os := by kernel_rfl
theorem E94 (n : Nat) (x0 : SV) (os : List SO) : callF prg (n + 1) 94 [x0] os = X94 (callF prg n) (n + 1) os.length x0 os := by kernel_rfl
theorem U94 {Q : SV → List SO → Prop} {x0 : SV} {os : List SO} {nl : Nat} (hnl : os.length = nl) (h : Ev (fun n => B94 (callF prg n) (n + 1) nl x0 os) Q) : Ev (fun n => callF prg n 94 [x0] os) Q := by subst hnl; exact ev_fun (fun n => (E94 n _ _).trans (X94_s _ _ _ _ _)) h
theorem L95_3_s (K : Nat → List SV → List SO → Out) (N nl : Nat) (m3 : Nat) (x0 x3 x4 : SV) (os : List SO) : L95_3 K N nl (m3 + 1) x0 x3 x4 os = LB95_3 K N nl m3 x0 x3 x4 os := by kernel_rfl
theorem UL95_3 {nl c : Nat} {Q : SV → List SO → Prop} {x0 x3 x4 : SV} {os : List SO} (h : Ev (fun n => LB95_3 (callF prg n) (n + 1) nl (n + 1 - (c + 1)) x0 x3 x4 os) Q) : Ev (fun n => L95_3 (callF prg n) (n + 1) nl (n + 1 - c) x0 x3 x4 os) Q := ev_loop (L := fun n m => L95_3 (callF prg n) (n + 1) nl m x0 x3 x4 os) (fun n m => L95_3_s _ _ _ _ _ _ _ _) h
theorem X95_s (K : Nat → List SV → List SO → Out) (N nl : Nat) (x0 : SV) (os : List SO) : X95 K N nl x0 os = B95 K N nl x0 os := by kernel_rfl
theorem E95 (n : Nat) (x0 : SV) (os : List SO) : callF prg (n + 1) 95 [x0] os = X95 (callF prg n) (n + 1) os.length x0 os := by kernel_rfl
theorem U95 {Q : SV → List SO → Prop} {x0 : SV} {os : List SO} {nl : Nat} (hnl : os.length = nl) (h : Ev (fun n => B95 (callF prg n) (n + 1) nl x0 os) Q) : Ev (fun n => callF prg n 95 [x0] os) Q := by subst hnl; exact ev_fun (fun n => (E95 n _ _).trans (X95_s _ _ _ _ _)) h
theorem L96_2_s (K : Nat → List SV → List SO → Out) (N nl : Nat) (m2 : Nat) (x0 x1 x7 x8 : SV) (os : List SO) : L96_2 K N nl (m2 + 1) x0 x1 x7 x8 os = LB96_2 K N nl m2 x0 x1 x7 x8 os := by kernel_rfl
theorem UL96_2 {nl c : Nat} {Q : SV → List SO → Prop} {x0 x1 x7 x8 : SV} {os : List SO} (h : Ev (fun n => LB96_2 (callF prg n) (n + 1) nl (n + 1 - (c + 1)) x0 x1 x7 x8 os) Q) : Ev (fun n => L96_2 (callF prg n) (n + 1) nl (n + 1 - c) x0 x1 x7 x8 os) Q := ev_loop (L := fun n m => L96_2 (callF prg n) (n + 1) nl m x0 x1 x7 x8 os) (fun n m => L96_2_s _ _ _ _ _ _ _ _ _) h
theorem X96_s (K : Nat → List SV → List SO → Out) (N nl : Nat) (x0 x1 : SV) (os : List SO) : X96 K N nl x0 x1 os = B96 K N nl x0 x1 os := by kernel_rfl
theorem E96 (n : Nat) (x0 x1 : SV) (os : List SO) : callF prg (n + 1) 96 [x0, x1] os = X96 (callF prg n) (n + 1) os.length x0 x1 os := by kernel_rfl
theorem U96 {Q : SV → List SO → Prop} {x0 x1 : SV} {os : List SO} {nl : Nat} (hnl : os.length = nl) (h : Ev (fun n => B96 (callF prg n) (n + 1) nl x0 x1 os) Q) : Ev (fun n => callF prg n 96 [x0, x1] os) Q := by subst hnl; exact ev_fun (fun n => (E96 n _ _ _).trans (X96_s _ _ _ _ _ _)) h
theorem X97_s (K : Nat → List SV → List SO → Out) (N nl : Nat) (x0 x1 : SV) (os : List SO) : X97 K N nl x0 x1 os = B97 K N nl x0 x1 os := by kernel_rfl
theorem E97 (n : Nat) (x0 x1 : SV) (os : List SO) : callF prg (n + 1) 97 [x0, x1] os = X97 (callF prg n) (n + 1) os.length x0 x1 os := by kernel_rfl
theorem U97 {Q : SV → List SO → Prop} {x0 x1 : SV} {os : List SO} {nl : Nat} (hnl : os.length = nl) (h : Ev (fun n => B97 (callF prg n) (n + 1) nl x0 x1 os) Q) : Ev (fun n => callF prg n 97 [x0, x1] os) Q := by subst hnl; exact ev_fun (fun n => (E97 n _ _ _).trans (X97_s _ _ _ _ _ _)) h
theorem X98_s (K : Nat → List SV → List SO → Out) (N nl : Nat) (x0 x1 : SV) (os : List SO) : X98 K N nl x0 x1 os = B98 K N nl x0 x1 os := by kernel_rfl
theorem E98 (n : Nat) (x0 x1 : SV) (os : List SO) : callF prg (n + 1) 98 [x0, x1] os = X98 (callF prg n) (n + 1) os.length x0 x1 os := by kernel_rfl
theorem U98 {Q : SV → List SO → Prop} {x0 x1 : SV} {os : List SO} {nl : Nat} (hnl : os.length = nl) (h : Ev (fun n => B98 (callF prg n) (n + 1) nl x0 x1 os) Q) : Ev (fun n => callF prg n 98 [x0, x1] os) Q := by subst hnl; exact ev_fun (fun n => (E98 n _ _ _).trans (X98_s _ _ _ _ _ _)) h
theorem X103_s (K : Nat → List SV → List SO → Out) (N nl : Nat) (x0 x1 : SV) (os : List SO) : X103 K N nl x0 x1 os = B103 K N nl x0 x1 os := by kernel_rfl
theorem E103 (n : Nat) (x0 x1 : SV) (os : List SO) : callF prg (n + 1) 103 [x0, x1] os = X103 (callF prg n) (n + 1) os.length x0 x1 os := by kernel_rfl
theorem U103 {Q : SV → List SO → Prop} {x0 x1 : SV} {os : List SO} {nl : Nat} (hnl : os.length = nl) (h : Ev (fun n => B103 (callF prg n) (n + 1) nl x0 x1 os) Q) : Ev (fun n => callF prg n 103 [x0, x1] os) Q := by subst hnl; exact ev_fun (fun n => (E103 n _ _ _).trans (X103_s _ _ _ _ _ _)) h
theorem X104_s (K : Nat → List SV → List SO → Out) (N nl : Nat) (x0 x1 : SV) (os : List SO) : X104 K N nl x0 x1 os = B104 K N nl x0 x1 os := by kernel_rfl
theorem E104 (n : Nat) (x0 x1 : SV) (os : List SO) : callF prg (n + 1) 104 [x0, x1] os = X104 (callF prg n) (n + 1) os.length x0 x1 os := by kernel_rfl
theorem U104 {Q : SV → List SO → Prop} {x0 x1 : SV} {os : List SO} {nl : Nat} (hnl : os.length = nl) (h : Ev (fun n => B104 (callF prg n) (n + 1) nl x0 x1 os) Q) : Ev (fun n => callF prg n 104 [x0, x1] os) Q := by subst hnl; exact ev_fun (fun n => (E104 n _ _ _).trans (X104_s _ _ _ _ _ _)) h
theorem X107_s (K : Nat → List SV → List SO → Out) (N nl : Nat) (x0 : SV) (os : List SO) : X107 K N nl x0 os = B107 K N nl x0 os := by kernel_rfl
theorem E107 (n : Nat) (x0 : SV) (os : List SO) : callF prg (n + 1) 107 [x0] os = X107 (callF prg n) (n + 1) os.length x0 os := by kernel_rfl
theorem U107 {Q : SV → List SO → Prop} {x0 : SV} {os : List SO} {nl : Nat} (hnl : os.length = nl) (h : Ev (fun n => B107 (callF prg n) (n + 1) nl x0 os) Q) : Ev (fun n => callF prg n 107 [x0] os) Q := by subst hnl; exact ev_fun (fun n => (E107 n _ _).trans (X107_s _ _ _ _ _)) h
theorem X108_s (K : Nat → List SV → List SO → Out) (N nl : Nat) (x0 : SV) (os : List SO) : X108 K N nl x0 os = B108 K N nl x0 os := by kernel_rfl
theorem E108 (n : Nat) (x0 : SV) (os : List SO) : callF prg (n + 1) 108 [x0] os = X108 (callF prg n) (n + 1) os.length x0 os := by kernel_rfl
theorem U108 {Q : SV → List SO → Prop} {x0 : SV} {os : List SO} {nl : Nat} (hnl : os.length = nl) (h : Ev (fun n => B108 (callF prg n) (n + 1) nl x0 os) Q) : Ev (fun n => callF prg n 108 [x0] os) Q := by subst hnl; exact ev_fun (fun n => (E108 n _ _).trans (X108_s _ _ _ _ _)) h
theorem L109_3_s (K : Nat → List SV → List SO → Out) (N nl : Nat) (m3 : Nat) (x3 x6 x7 x8 : SV) (os : List SO) : L109_3 K N nl (m3 + 1) x3 x6 x7 x8 os = LB109_3 K N nl m3 x3 x6 x7 x8 os := by kernel_rfl
theorem UL109_3 {nl c : Nat} {Q : SV → List SO → Prop} {x3 x6 x7 x8 : SV} {os : List SO} (h : Ev (fun n => LB109_3 (callF prg n) (n + 1) nl (n + 1 - (c + 1)) x3 x6 x7 x8 os) Q) : Ev (fun n => L109_3 (callF prg n) (n + 1) nl (n + 1 - c) x3 x6 x7 x8 os) Q := ev_loop (L := fun n m => L109_3 (callF prg n) (n + 1) nl m x3 x6 x7 x8 os) (fun n m => L109_3_s _ _ _ _ _ _ _ _ _) h
theorem VL109_3 {nl : Nat} {Q : SV → List SO → Prop} {x3 x6 x7 x8 : SV} {os : List SO} (h : Ev (fun n => LB109_3 (callF prg n) (n + 1) nl (n + 1 - 1) x3 x6 x7 x8 os) Q) : Ev (fun n => L109_3 (callF prg n) (n + 1) nl (n + 1) x3 x6 x7 x8 os) Q := UL109_3 (c := 0) h
theorem X109_s (K : Nat → List SV → List SO → Out) (N nl : Nat) (x0 : SV) (os : List SO) : X109 K N nl x0 os = B109 K N nl x0 os := by kernel_rfl
theorem E109 (n : Nat) (x0 : SV) (os : List SO) : callF prg (n + 1) 109 [x0] os = X109 (callF prg n) (n + 1) os.length x0 os := by kernel_rfl
theorem U109 {Q : SV → List SO → Prop} {x0 : SV} {os : List SO} {nl : Nat} (hnl : os.length = nl) (h : Ev (fun n => B109 (callF prg n) (n + 1) nl x0 os) Q) : Ev (fun n => callF prg n 109 [x0] os) Q := by subst hnl; exact ev_fun (fun n => (E109 n _ _).trans (X109_s _ _ _ _ _)) h
theorem X110_s (K : Nat → List SV → List SO → Out) (N nl : Nat) (x0 x1 : SV) (os : List SO) : X110 K N nl x0 x1 os = B110 K N nl x0 x1 os := by kernel_rfl
theorem E110 (n : Nat) (x0 x1 : SV) (os : List SO) : callF prg (n + 1) 110 [x0, x1] os = X110 (callF prg n) (n + 1) os.length x0 x1 os := by kernel_rfl
theorem U110 {Q : SV → List SO → Prop} {x0 x1 : SV} {os : List SO} {nl : Nat} (hnl : os.length = nl) (h : Ev (fun n => B110 (callF prg n) (n + 1) nl x0 x1 os) Q) : Ev (fun n => callF prg n 110 [x0, x1] os) Q := by subst hnl; exact ev_fun (fun n => (E110 n _ _ _).trans (X110_s _ _ _ _ _ _)) h
theorem L111_2_s (K : Nat → List SV → List SO → Out) (N nl : Nat) (m2 : Nat) (x0 x3 : SV) (os : List SO) : L111_2 K N nl (m2 + 1) x0 x3 os = LB111_2 K N nl m2 x0 x3 os := by kernel_rfl
theorem UL111_2 {nl c : Nat} {Q : SV → List SO → Prop} {x0 x3 : SV} {os : List SO} (h : Ev (fun n => LB111_2 (callF prg n) (n + 1) nl (n + 1 - (c + 1)) x0 x3 os) Q) : Ev (fun n => L111_2 (callF prg n) (n + 1) nl (n + 1 - c) x0 x3 os) Q := ev_loop (L := fun n m => L111_2 (callF prg n) (n + 1) nl m x0 x3 os) (fun n m => L111_2_s _ _ _ _ _ _ _) h
theorem X111_s (K : Nat → List SV → List SO → Out) (N nl : Nat) (x0 : SV) (os : List SO) : X111 K N nl x0 os = B111 K N nl x0 os := by kernel_rfl
theorem E111 (n : Nat) (x0 : SV) (os : List SO) : callF prg (n + 1) 111 [x0] os = X111 (callF prg n) (n + 1) os.length x0 os := by kernel_rfl
theorem U111 {Q : SV → List SO → Prop} {x0 : SV} {os : List SO} {nl : Nat} (hnl : os.length = nl) (h : Ev (fun n => B111 (callF prg n) (n + 1) nl x0 os) Q) : Ev (fun n => callF prg n 111 [x0] os) Q := by subst hnl; exact ev_fun (fun n => (E111 n _ _).trans (X111_s _ _ _ _ _)) h
theorem L112_2_s (K : Nat → List SV → List SO → Out) (N nl : Nat) (m2 : Nat) (x0 x1 x5 : SV) (os : List SO) : L112_2 K N nl (m2 + 1) x0 x1 x5 os = gcB nl [x0, x1, x5] os fun xs os => G112_2 K N nl m2 xs os := by kernel_rfl
theorem UL112_2 {nl c : Nat} {Q : SV → List SO → Prop} {x0 x1 x5 : SV} {os : List SO} (h : Ev (fun n => gcB nl [x0, x1, x5] os fun xs os => G112_2 (callF prg n) (n + 1) nl (n + 1 - (c + 1)) xs os) Q) : Ev (fun n => L112_2 (callF prg n) (n + 1) nl (n + 1 - c) x0 x1 x5 os) Q := ev_loop (L := fun n m => L112_2 (callF prg n) (n + 1) nl m x0 x1 x5 os) (fun n m => L112_2_s _ _ _ _ _ _ _ _) h
theorem VL112_2 {nl : Nat} {Q : SV → List SO → Prop} {x0 x1 x5 : SV} {os : List SO} (h : Ev (fun n => gcB nl [x0, x1, x5] os fun xs os => G112_2 (callF prg n) (n + 1) nl (n + 1 - 1) xs os) Q) : Ev (fun n => L112_2 (callF prg n) (n + 1) nl (n + 1) x0 x1 x5 os) Q := UL112_2 (c := 0) h
theorem G112_2_s (K : Nat → List SV → List SO → Out) (N nl : Nat) (m2 : Nat) (x0 x1 x5 : SV) (os : List SO) : G112_2 K N nl m2 [x0, x1, x5] os = GB112_2 K N nl m2 x0 x1 x5 os := by kernel_rfl
theorem UG112_2 {nl : Nat} {Q : SV → List SO → Prop} (m2 : Nat → Nat) {x0 x1 x5 : SV} {os : List SO} (h : Ev (fun n => GB112_2 (callF prg n) (n + 1) nl (m2 n) x0 x1 x5 os) Q) : Ev (fun n => G112_2 (callF prg n) (n + 1) nl (m2 n) [x0, x1, x5] os) Q := ev_eq (fun n => G112_2_s _ _ _ _ _ _ _ _) h
theorem X112_s (K : Nat → List SV → List SO → Out) (N nl : Nat) (x0 x1 : SV) (os : List SO) : X112 K N nl x0 x1 os = B112 K N nl x0 x1 os := by kernel_rfl
theorem E112 (n : Nat) (x0 x1 : SV) (os : List SO) : callF prg (n + 1) 112 [x0, x1] os = X112 (callF prg n) (n + 1) os.length x0 x1 os := by kernel_rfl
theorem U112 {Q : SV → List SO → Prop} {x0 x1 : SV} {os : List SO} {nl : Nat} (hnl : os.length = nl) (h : Ev (fun n => B112 (callF prg n) (n + 1) nl x0 x1 os) Q) : Ev (fun n => callF prg n 112 [x0, x1] os) Q := by subst hnl; exact ev_fun (fun n => (E112 n _ _ _).trans (X112_s _ _ _ _ _ _)) h
theorem X113_s (K : Nat → List SV → List SO → Out) (N nl : Nat) (x0 : SV) (os : List SO) : X113 K N nl x0 os = B113 K N nl x0 os := by kernel_rfl
theorem E113 (n : Nat) (x0 : SV) (os : List SO) : callF prg (n + 1) 113 [x0] os = X113 (callF prg n) (n + 1) os.length x0 os := by kernel_rfl
theorem U113 {Q : SV → List SO → Prop} {x0 : SV} {os : List SO} {nl : Nat} (hnl : os.length = nl) (h : Ev (fun n => B113 (callF prg n) (n + 1) nl x0 os) Q) : Ev (fun n => callF prg n 113 [x0] os) Q := by subst hnl; exact ev_fun (fun n => (E113 n _ _).trans (X113_s _ _ _ _ _)) h
theorem X114_s (K : Nat → List SV → List SO → Out) (N nl : Nat) (x0 : SV) (os : List SO) : X114 K N nl x0 os = B114 K N nl x0 os := by kernel_rfl
theorem E114 (n : Nat) (x0 : SV) (os : List SO) : callF prg (n + 1) 114 [x0] os = X114 (callF prg n) (n + 1) os.length x0 os := by kernel_rfl
theorem U114 {Q : SV → List SO → Prop} {x0 : SV} {os : List SO} {nl : Nat} (hnl : os.length = nl) (h : Ev (fun n => B114 (callF prg n) (n + 1) nl x0 os) Q) : Ev (fun n => callF prg n 114 [x0] os) Q := by subst hnl; exact ev_fun (fun n => (E114 n _ _).trans (X114_s _ _ _ _ _)) h
theorem L115_2_s (K : Nat → List SV → List SO → Out) (N nl : Nat) (m2 : Nat) (x0 x1 x7 x8 : SV) (os : List SO) : L115_2 K N nl (m2 + 1) x0 x1 x7 x8 os = LB115_2 K N nl m2 x0 x1 x7 x8 os := by kernel_rfl
theorem UL115_2 {nl c : Nat} {Q : SV → List SO → Prop} {x0 x1 x7 x8 : SV} {os : List SO} (h : Ev (fun n => LB115_2 (callF prg n) (n + 1) nl (n + 1 - (c + 1)) x0 x1 x7 x8 os) Q) : Ev (fun n => L115_2 (callF prg n) (n + 1) nl (n + 1 - c) x0 x1 x7 x8 os) Q := ev_loop (L := fun n m => L115_2 (callF prg n) (n + 1) nl m x0 x1 x7 x8 os) (fun n m => L115_2_s _ _ _ _ _ _ _ _ _) h
theorem X115_s (K : Nat → List SV → List SO → Out) (N nl : Nat) (x0 x1 : SV) (os : List SO) : X115 K N nl x0 x1 os = B115 K N nl x0 x1 os := by kernel_rfl
theorem E115 (n : Nat) (x0 x1 : SV) (os : List SO) : callF prg (n + 1) 115 [x0, x1] os = X115 (callF prg n) (n + 1) os.length x0 x1 os := by kernel_rfl
theorem U115 {Q : SV → List SO → Prop} {x0 x1 : SV} {os : List SO} {nl : Nat} (hnl : os.length = nl) (h : Ev (fun n => B115 (callF prg n) (n + 1) nl x0 x1 os) Q) : Ev (fun n => callF prg n 115 [x0, x1] os) Q := by subst hnl; exact ev_fun (fun n => (E115 n _ _ _).trans (X115_s _ _ _ _ _ _)) h
theorem X120_s (K : Nat → List SV → List SO → Out) (N nl : Nat) (x0 : SV) (os : List SO) : X120 K N nl x0 os = B120 K N nl x0 os := by kernel_rfl
theorem E120 (n : Nat) (x0 : SV) (os : List SO) : callF prg (n + 1) 120 [x0] os = X120 (callF prg n) (n + 1) os.length x0 os := by kernel_rfl
theorem U120 {Q : SV → List SO → Prop} {x0 : SV} {os : List SO} {nl : Nat} (hnl : os.length = nl) (h : Ev (fun n => B120 (callF prg n) (n + 1) nl x0 os) Q) : Ev (fun n => callF prg n 120 [x0] os) Q := by subst hnl; exact ev_fun (fun n => (E120 n _ _).trans (X120_s _ _ _ _ _)) h
end Go.Proofs.Ytgeolifkmiglgaa

/- What the functions of the kit give: the range, the reader of a code. -/
namespace Go.Proofs.Ytgeolifkmiglgaa
open Go
set_option linter.unusedVariables false
set_option linter.unusedSimpArgs false
theorem s_l6In (n lo hi : Int) : Ex (fun m => callF prg m 77 [iI n, iI lo, iI hi] []) (bB (decide (lo ≤ n ∧ n ≤ hi))) [] := by
  refine ev_is.1 (U77 (nl := 0) rfl ?_)
  unfold B77
  repeat' (first | ((with_reducible refine eG ?_); first | (with_reducible first | refine ev_gtt ?_ | refine ev_gff ?_ | refine ev_gtf ?_ | refine ev_gft ?_ | refine ev_gu ?_) | refine ev_bd rfl ?_ | refine ev_bd0 rfl ?_ | ((with_reducible refine ev_gB ?_ ?_) <;> intro h)) | ((with_reducible refine eB ?_); first | ((with_reducible first | refine ev_leq ?_ ?_ | refine ev_geq ?_ ?_) <;> intro h <;> try (exfalso; omega)) | refine ev_bd rfl ?_ | refine ev_bd0 rfl ?_) | ((with_reducible refine eD ?_); first | refine ev_bd rfl ?_ | refine ev_bd0 rfl ?_ | ((with_reducible refine ev_pickB ?_ ?_) <;> intro h)) | refine ev_ret rfl ?_)
  all_goals exact ⟨by simp <;> omega, rfl⟩
theorem s_in (n lo hi : Int) : Ex (fun m => callF prg m 80 [iI n, iI lo, iI hi] []) (bB (decide (lo ≤ n ∧ n ≤ hi))) [] := by
  refine ev_is.1 (U80 (nl := 0) rfl ?_)
  unfold B80
  repeat' (first | ((with_reducible refine eG ?_); first | (with_reducible first | refine ev_gtt ?_ | refine ev_gff ?_ | refine ev_gtf ?_ | refine ev_gft ?_ | refine ev_gu ?_) | refine ev_bd rfl ?_ | refine ev_bd0 rfl ?_ | ((with_reducible refine ev_gB ?_ ?_) <;> intro h)) | ((with_reducible refine eB ?_); first | ((with_reducible first | refine ev_leq ?_ ?_ | refine ev_geq ?_ ?_) <;> intro h <;> try (exfalso; omega)) | refine ev_bd rfl ?_ | refine ev_bd0 rfl ?_) | ((with_reducible refine eD ?_); first | refine ev_bd rfl ?_ | refine ev_bd0 rfl ?_ | ((with_reducible refine ev_pickB ?_ ?_) <;> intro h)) | refine ev_ret rfl ?_)
  all_goals exact ⟨by simp <;> omega, rfl⟩
theorem s_isName (n : Int) : Ex (fun m => callF prg m 107 [iI n] []) (bB (decide (1 ≤ n ∧ n ≤ 4))) [] := by
  refine ev_is.1 (U107 (nl := 0) rfl ?_)
  unfold B107
  repeat' (first | ((with_reducible refine eC ?_); first | ((refine ev_callD (s_in ..) rfl rfl ?_ rfl rfl ?_ ?_); (focus first | exact .inl rfl | exact .inr rfl | (refine .inr ?_; simp [flagC, ownF, hasSl3, hasSl1, SO.hasSl, List.all_map, flatSV, SV.cells, Function.comp_def]; done)); (all_goals (intro h)); (all_goals (try (exfalso; first | omega | exact h rfl | exact h ⟨rfl, rfl, rfl⟩))))) | ((with_reducible refine eD ?_); first | refine ev_bd rfl ?_ | refine ev_bd0 rfl ?_) | refine ev_ret rfl ?_)
  all_goals exact ⟨by simp <;> omega, rfl⟩
theorem s_isVer (n : Int) : Ex (fun m => callF prg m 108 [iI n] []) (bB (decide (1 ≤ n ∧ n ≤ 5))) [] := by
  refine ev_is.1 (U108 (nl := 0) rfl ?_)
  unfold B108
  repeat' (first | ((with_reducible refine eC ?_); first | ((refine ev_callD (s_in ..) rfl rfl ?_ rfl rfl ?_ ?_); (focus first | exact .inl rfl | exact .inr rfl | (refine .inr ?_; simp [flagC, ownF, hasSl3, hasSl1, SO.hasSl, List.all_map, flatSV, SV.cells, Function.comp_def]; done)); (all_goals (intro h)); (all_goals (try (exfalso; first | omega | exact h rfl | exact h ⟨rfl, rfl, rfl⟩))))) | ((with_reducible refine eD ?_); first | refine ev_bd rfl ?_ | refine ev_bd0 rfl ?_) | refine ev_ret rfl ?_)
  all_goals exact ⟨by simp <;> omega, rfl⟩
def QYes : SV → List SO → Prop := fun x _ => x = .v (.bool true)
structure RdOK (b : List Int) : Prop where
  by_ : ∀ i, 0 ≤ nth b i ∧ nth b i < 256
  len : b.length ≤ 2000
end Go.Proofs.Ytgeolifkmiglgaa
