/- The evaluator S and what it says of functions: Sb2. -/
import Derived.Test.YtebaiioejagfoaaGreatDoorSb1
import Derived.Test.YtebaiioejagfoaaGreatDoorProg
import Derived.KernelRfl
/- The evaluator S: the functions of this seat, read chunk by chunk (2). -/
namespace Go.Proofs.YtebaiioejagfoaaGreatDoor
open Go
set_option linter.unusedVariables false
set_option maxRecDepth 100000
noncomputable def bk94_2 (K : Nat → List SV → List SO → Out) (N nl : Nat) (m2 : Nat) : Env → List SO → Out := fun env os => loopS nl (fi94.lp 2) (fun env os nx => exec (cx K) N nl fi94 (subC c94 [1, 0, 1, 0, 0]) env os (kLoop nx (kBlock 0 (kSeq (exec (cx K) N nl fi94 (subC c94 [1, 1])) (fi94.jn 7) (kEnd tab [] nl rs94))))) m2 (killS (fi94.lp 2).alive env) os
noncomputable def bk95_4 (K : Nat → List SV → List SO → Out) (N nl : Nat) (m4 : Nat) : Env → List SO → Out := fun env os => loopS nl (fi95.lp 4) (fun env os nx => exec (cx K) N nl fi95 (subC c95 [1, 1, 0, 1, 0, 0]) env os (kLoop nx (kBlock 0 (kSeq (exec (cx K) N nl fi95 (subC c95 [1, 1, 1])) (fi95.jn 8) (kEnd tab [] nl rs95))))) m4 (killS (fi95.lp 4).alive env) os
noncomputable def bk96_4 (K : Nat → List SV → List SO → Out) (N nl : Nat) (m4 : Nat) : Env → List SO → Out := fun env os => loopS nl (fi96.lp 4) (fun env os nx => exec (cx K) N nl fi96 (subC c96 [1, 1, 0, 1, 0, 0]) env os (kLoop nx (kBlock 0 (kSeq (exec (cx K) N nl fi96 (subC c96 [1, 1, 1])) (fi96.jn 8) (kEnd tab [] nl rs96))))) m4 (killS (fi96.lp 4).alive env) os
noncomputable def bk97_4 (K : Nat → List SV → List SO → Out) (N nl : Nat) (m4 : Nat) : Env → List SO → Out := fun env os => loopS nl (fi97.lp 4) (fun env os nx => exec (cx K) N nl fi97 (subC c97 [1, 1, 0, 1, 0, 0]) env os (kLoop nx (kBlock 0 (kSeq (exec (cx K) N nl fi97 (subC c97 [1, 1, 1])) (fi97.jn 8) (kEnd tab [] nl rs97))))) m4 (killS (fi97.lp 4).alive env) os
noncomputable def bk98_2 (K : Nat → List SV → List SO → Out) (N nl : Nat) (m2 : Nat) : Env → List SO → Out := fun env os => loopS nl (fi98.lp 2) (fun env os nx => exec (cx K) N nl fi98 (subC c98 [1, 0, 1, 0, 0]) env os (kLoop nx (kBlock 0 (kSeq (exec (cx K) N nl fi98 (subC c98 [1, 1])) (fi98.jn 6) (kEnd tab [] nl rs98))))) m2 (killS (fi98.lp 2).alive env) os
noncomputable def bk99_4 (K : Nat → List SV → List SO → Out) (N nl : Nat) (m4 : Nat) : Env → List SO → Out := fun env os => loopS nl (fi99.lp 4) (fun env os nx => exec (cx K) N nl fi99 (subC c99 [1, 1, 1, 0, 1, 0, 0]) env os (kLoop nx (kBlock 0 (kSeq (exec (cx K) N nl fi99 (subC c99 [1, 1, 1, 1])) (fi99.jn 8) (kEnd tab [] nl rs99))))) m4 (killS (fi99.lp 4).alive env) os
noncomputable def bk99_9 (K : Nat → List SV → List SO → Out) (N nl : Nat) (m9 : Nat) : Env → List SO → Out := fun env os => loopS nl (fi99.lp 9) (fun env os nx => exec (cx K) N nl fi99 (subC c99 [1, 1, 1, 1, 0, 1, 0, 0]) env os (kLoop nx (kBlock 2 (kSeq (exec (cx K) N nl fi99 (subC c99 [1, 1, 1, 1, 1])) (fi99.jn 13) (kEnd tab [] nl rs99))))) m9 (killS (fi99.lp 9).alive env) os
noncomputable def L99_4 (K : Nat → List SV → List SO → Out) (N nl : Nat) (m4 : Nat) (x0 x1 x6 x7 x8 x9 : SV) (os : List SO) : Out := loopS nl (fi99.lp 4) (fun env os nx => exec (cx K) N nl fi99 (subC c99 [1, 1, 1, 0, 1, 0, 0]) env os (kLoop nx (kBlock 0 (kSeq (exec (cx K) N nl fi99 (subC c99 [1, 1, 1, 1])) (fi99.jn 8) (kEnd tab [] nl rs99))))) m4 [(0, x0), (1, x1), (6, x6), (7, x7), (8, x8), (9, x9)] os
noncomputable def G99_4 (K : Nat → List SV → List SO → Out) (N nl : Nat) (m4 : Nat) (xs : List SV) (os : List SO) : Out := (fun env os nx => exec (cx K) N nl fi99 (subC c99 [1, 1, 1, 0, 1, 0, 0]) env os (kLoop nx (kBlock 0 (kSeq (exec (cx K) N nl fi99 (subC c99 [1, 1, 1, 1])) (fi99.jn 8) (kEnd tab [] nl rs99))))) (zipE [0, 1, 6, 7, 8, 9] xs) os (bk99_4 K N nl m4)
noncomputable def L99_9 (K : Nat → List SV → List SO → Out) (N nl : Nat) (m9 : Nat) (x0 x1 x6 x7 x10 : SV) (os : List SO) : Out := loopS nl (fi99.lp 9) (fun env os nx => exec (cx K) N nl fi99 (subC c99 [1, 1, 1, 1, 0, 1, 0, 0]) env os (kLoop nx (kBlock 2 (kSeq (exec (cx K) N nl fi99 (subC c99 [1, 1, 1, 1, 1])) (fi99.jn 13) (kEnd tab [] nl rs99))))) m9 [(0, x0), (1, x1), (6, x6), (7, x7), (10, x10)] os
noncomputable def G99_9 (K : Nat → List SV → List SO → Out) (N nl : Nat) (m9 : Nat) (xs : List SV) (os : List SO) : Out := (fun env os nx => exec (cx K) N nl fi99 (subC c99 [1, 1, 1, 1, 0, 1, 0, 0]) env os (kLoop nx (kBlock 2 (kSeq (exec (cx K) N nl fi99 (subC c99 [1, 1, 1, 1, 1])) (fi99.jn 13) (kEnd tab [] nl rs99))))) (zipE [0, 1, 6, 7, 10] xs) os (bk99_9 K N nl m9)
noncomputable def J99_10 (K : Nat → List SV → List SO → Out) (N nl : Nat) (m9 : Nat) (x0 x1 x6 x7 x10 : SV) (os : List SO) : Out := exec (cx K) N nl fi99 (subC c99 [1, 1, 1, 1, 0, 1, 0, 0, 1, 1]) [(0, x0), (1, x1), (6, x6), (7, x7), (10, x10)] os (kLoop (bk99_9 K N nl m9) (kBlock 2 (kSeq (exec (cx K) N nl fi99 (subC c99 [1, 1, 1, 1, 1])) (fi99.jn 13) (kEnd tab [] nl rs99))))
noncomputable def GB99_4 (K : Nat → List SV → List SO → Out) (N nl : Nat) (m4 : Nat) (x0 x1 x6 x7 x8 x9 : SV) (os : List SO) : Out :=
 bd (ret1 (binS tab .gtr 3 x9 (SV.v (.int .i64 0))) os) fun v9 o9 =>
 bd (gd v9 true (some (x8, o9)) o9) fun v10 o10 =>
 bd (gd v9 true (ret1 (binS tab .lss 3 v10 (SV.v (.int .i64 6))) o10) o10) fun v11 o11 =>
 bd (ret1 (pickS v9 v11 (SV.v (.bool false))) o11) fun v12 o12 =>
 condS v12 (bd (ret1 (fieldAddrS tab 35 x7 2) o12) fun v13 o13 =>
 dchk (isBox v13) <|
 bd (ret1 (loadS tab o13 32 v13) o13) fun v14 o14 =>
 dchk (keepOk ⟨tab, ownF, K⟩ o14 (SV.fn 28 []) [x0, (SV.v (.int .i64 10))] [v13] false) <|
 bd (callS ⟨tab, ownF, K⟩ o14 28 [x0, (SV.v (.int .i64 10))]) fun v15 o15 =>
 bd (buildS tab o15 88 [(0, (some x8)), (1, (some v15))]) fun v16 o16 =>
 bd (buildSliceS tab o16 32 1 [(0, v16)]) fun v17 o17 =>
 bd (appendS tab o17 32 32 v14 v17) fun v18 o18 =>
 bd (ret1 (fieldAddrS tab 35 x7 2) o18) fun v19 o19 =>
 bd (storeO tab o19 32 v19 (some v18)) fun v20 o20 =>
 bd (ret1 (binS tab .add 3 x8 (SV.v (.int .i64 1))) o20) fun v21 o21 =>
 bd (callS ⟨tab, ownF, K⟩ o21 28 [x0, (SV.v (.int .i64 3))]) fun v22 o22 =>
 bd (ret1 (binS tab .add 3 v21 v22) o22) fun v23 o23 =>
 bd (ret1 (binS tab .sub 3 x9 (SV.v (.int .i64 1))) o23) fun v24 o24 =>
 L99_4 K N nl m4 x0 x1 x6 x7 v23 v24 o24)
 (L99_9 K N nl N x0 x1 x6 x7 (SV.v (.int .i64 1)) o12)
noncomputable def GB99_9 (K : Nat → List SV → List SO → Out) (N nl : Nat) (m9 : Nat) (x0 x1 x6 x7 x10 : SV) (os : List SO) : Out :=
 bd (ret1 (binS tab .leq 3 x10 (SV.v (.int .i64 4))) os) fun v25 o25 =>
 bd (gd v25 true (ret1 (fieldAddrS tab 35 x7 3) o25) o25) fun v26 o26 =>
 bd (gd v25 true (ret1 (loadS tab o26 33 v26) o26) o26) fun v27 o27 =>
 bd (gd v25 true (lenO tab 33 o27 v27) o27) fun v28 o28 =>
 bd (gd v25 true (ret1 (binS tab .lss 3 v28 (SV.v (.int .i64 2))) o28) o28) fun v29 o29 =>
 bd (ret1 (pickS v25 v29 (SV.v (.bool false))) o29) fun v30 o30 =>
 condS v30 (bd (ret1 (binS tab .neq 3 x10 x1) o30) fun v31 o31 =>
 bd (gd v31 true (some (x0, o31)) o31) fun v32 o32 =>
 bd (gd v31 true (callS ⟨tab, ownF, K⟩ o32 28 [v32, (SV.v (.int .i64 6))]) o32) fun v33 o33 =>
 bd (gd v31 true (ret1 (binS tab .eql 3 v33 (SV.v (.int .i64 0))) o33) o33) fun v34 o34 =>
 bd (ret1 (pickS v31 v34 (SV.v (.bool false))) o34) fun v35 o35 =>
 condS v35 (bd (ret1 (fieldAddrS tab 35 x7 3) o35) fun v36 o36 =>
 dchk (isBox v36) <|
 bd (ret1 (loadS tab o36 33 v36) o36) fun v37 o37 =>
 dchk (keepOk ⟨tab, ownF, K⟩ o37 (SV.fn 28 []) [x0, (SV.v (.int .i64 2))] [v36] false) <|
 bd (callS ⟨tab, ownF, K⟩ o37 28 [x0, (SV.v (.int .i64 2))]) fun v38 o38 =>
 bd (ret1 (binS tab .add 3 (SV.v (.int .i64 1)) v38) o38) fun v39 o39 =>
 bd (buildS tab o39 91 [(0, (some x10)), (1, (some v39))]) fun v40 o40 =>
 bd (buildSliceS tab o40 33 1 [(0, v40)]) fun v41 o41 =>
 bd (appendS tab o41 33 33 v37 v41) fun v42 o42 =>
 bd (ret1 (fieldAddrS tab 35 x7 3) o42) fun v43 o43 =>
 bd (storeO tab o43 33 v43 (some v42)) fun v44 o44 =>
 J99_10 K N nl m9 x0 x1 x6 x7 x10 o44)
 (J99_10 K N nl m9 x0 x1 x6 x7 x10 o35))
 (bd (ret1 (loadS tab o30 35 x7) o30) fun v45 o45 =>
 bd (storeO tab o45 35 x6 (some v45)) fun v46 o46 =>
 retV tab nl o46 (resC1 (loadS tab o46 35 x6) (some [])))
noncomputable def JB99_10 (K : Nat → List SV → List SO → Out) (N nl : Nat) (m9 : Nat) (x0 x1 x6 x7 x10 : SV) (os : List SO) : Out :=
 bd (ret1 (binS tab .add 3 x10 (SV.v (.int .i64 1))) os) fun v47 o47 =>
 L99_9 K N nl m9 x0 x1 x6 x7 v47 o47
noncomputable def X99 (K : Nat → List SV → List SO → Out) (N nl : Nat) (x0 x1 x2 : SV) (os : List SO) : Out := exec (cx K) N nl fi99 c99 [(0, x0), (1, x1), (2, x2)] os (kEnd tab [] nl rs99)
noncomputable def B99 (K : Nat → List SV → List SO → Out) (N nl : Nat) (x0 x1 x2 : SV) (os : List SO) : Out :=
 bd (allocS tab os 35) fun v1 o1 =>
 bd (buildSliceS tab o1 32 0 []) fun v2 o2 =>
 bd (buildSliceS tab o2 33 0 []) fun v3 o3 =>
 bd (buildS tab o3 35 [(0, (some x1)), (1, (some x2)), (2, (some v2)), (3, (some v3))]) fun v4 o4 =>
 bd (allocS tab o4 35) fun v5 o5 =>
 bd (storeO tab o5 35 v5 (some v4)) fun v6 o6 =>
 bd (callS ⟨tab, ownF, K⟩ o6 28 [x0, (SV.v (.int .i64 4))]) fun v7 o7 =>
 bd (callS ⟨tab, ownF, K⟩ o7 28 [x0, (SV.v (.int .i64 3))]) fun v8 o8 =>
 L99_4 K N nl N x0 x1 v1 v5 v7 v8 o8
noncomputable def bk100_3 (K : Nat → List SV → List SO → Out) (N nl : Nat) (m3 : Nat) : Env → List SO → Out := fun env os => loopS nl (fi100.lp 3) (fun env os nx => exec (cx K) N nl fi100 (subC c100 [1, 1, 0, 1, 0, 0]) env os (kLoop nx (kBlock 0 (kSeq (exec (cx K) N nl fi100 (subC c100 [1, 1, 1])) (fi100.jn 7) (kEnd tab [] nl rs100))))) m3 (killS (fi100.lp 3).alive env) os
noncomputable def bk100_9 (K : Nat → List SV → List SO → Out) (N nl : Nat) (m9 : Nat) : Env → List SO → Out := fun env os => loopS nl (fi100.lp 9) (fun env os nx => exec (cx K) N nl fi100 (subC c100 [1, 1, 1, 1, 0, 1, 0, 0]) env os (kLoop nx (kBlock 2 (kSeq (exec (cx K) N nl fi100 (subC c100 [1, 1, 1, 1, 1])) (fi100.jn 13) (kEnd tab [] nl rs100))))) m9 (killS (fi100.lp 9).alive env) os
noncomputable def L100_3 (K : Nat → List SV → List SO → Out) (N nl : Nat) (m3 : Nat) (x0 x3 x5 x6 : SV) (os : List SO) : Out := loopS nl (fi100.lp 3) (fun env os nx => exec (cx K) N nl fi100 (subC c100 [1, 1, 0, 1, 0, 0]) env os (kLoop nx (kBlock 0 (kSeq (exec (cx K) N nl fi100 (subC c100 [1, 1, 1])) (fi100.jn 7) (kEnd tab [] nl rs100))))) m3 [(0, x0), (3, x3), (5, x5), (6, x6)] os
noncomputable def G100_3 (K : Nat → List SV → List SO → Out) (N nl : Nat) (m3 : Nat) (xs : List SV) (os : List SO) : Out := (fun env os nx => exec (cx K) N nl fi100 (subC c100 [1, 1, 0, 1, 0, 0]) env os (kLoop nx (kBlock 0 (kSeq (exec (cx K) N nl fi100 (subC c100 [1, 1, 1])) (fi100.jn 7) (kEnd tab [] nl rs100))))) (zipE [0, 3, 5, 6] xs) os (bk100_3 K N nl m3)
noncomputable def J100_4 (K : Nat → List SV → List SO → Out) (N nl : Nat) (m3 : Nat) (x0 x3 x5 x6 : SV) (os : List SO) : Out := exec (cx K) N nl fi100 (subC c100 [1, 1, 0, 1, 0, 0, 1, 1]) [(0, x0), (3, x3), (5, x5), (6, x6)] os (kLoop (bk100_3 K N nl m3) (kBlock 0 (kSeq (exec (cx K) N nl fi100 (subC c100 [1, 1, 1])) (fi100.jn 7) (kEnd tab [] nl rs100))))
noncomputable def L100_9 (K : Nat → List SV → List SO → Out) (N nl : Nat) (m9 : Nat) (x0 x3 x5 x7 : SV) (os : List SO) : Out := loopS nl (fi100.lp 9) (fun env os nx => exec (cx K) N nl fi100 (subC c100 [1, 1, 1, 1, 0, 1, 0, 0]) env os (kLoop nx (kBlock 2 (kSeq (exec (cx K) N nl fi100 (subC c100 [1, 1, 1, 1, 1])) (fi100.jn 13) (kEnd tab [] nl rs100))))) m9 [(0, x0), (3, x3), (5, x5), (7, x7)] os
noncomputable def G100_9 (K : Nat → List SV → List SO → Out) (N nl : Nat) (m9 : Nat) (xs : List SV) (os : List SO) : Out := (fun env os nx => exec (cx K) N nl fi100 (subC c100 [1, 1, 1, 1, 0, 1, 0, 0]) env os (kLoop nx (kBlock 2 (kSeq (exec (cx K) N nl fi100 (subC c100 [1, 1, 1, 1, 1])) (fi100.jn 13) (kEnd tab [] nl rs100))))) (zipE [0, 3, 5, 7] xs) os (bk100_9 K N nl m9)
noncomputable def J100_10 (K : Nat → List SV → List SO → Out) (N nl : Nat) (m9 : Nat) (x0 x3 x5 x7 : SV) (os : List SO) : Out := exec (cx K) N nl fi100 (subC c100 [1, 1, 1, 1, 0, 1, 0, 0, 1, 1]) [(0, x0), (3, x3), (5, x5), (7, x7)] os (kLoop (bk100_9 K N nl m9) (kBlock 2 (kSeq (exec (cx K) N nl fi100 (subC c100 [1, 1, 1, 1, 1])) (fi100.jn 13) (kEnd tab [] nl rs100))))
noncomputable def GB100_3 (K : Nat → List SV → List SO → Out) (N nl : Nat) (m3 : Nat) (x0 x3 x5 x6 : SV) (os : List SO) : Out :=
 bd (lenO tab 23 os x0) fun v4 o4 =>
 bd (ret1 (binS tab .lss 3 x6 v4) o4) fun v5 o5 =>
 condS v5 (bd (ret1 (indexAddrS tab o5 23 x0 x6) o5) fun v6 o6 =>
 bd (ret1 (fieldAddrS tab 35 v6 0) o6) fun v7 o7 =>
 bd (ret1 (loadS tab o7 3 v7) o7) fun v8 o8 =>
 bd (ret1 (indexAddrS tab o8 23 x0 x6) o8) fun v9 o9 =>
 bd (ret1 (fieldAddrS tab 35 v9 1) o9) fun v10 o10 =>
 bd (ret1 (loadS tab o10 3 v10) o10) fun v11 o11 =>
 bd (ret1 (fieldAddrS tab 35 x3 0) o11) fun v12 o12 =>
 bd (ret1 (loadS tab o12 3 v12) o12) fun v13 o13 =>
 bd (ret1 (fieldAddrS tab 35 x3 1) o13) fun v14 o14 =>
 bd (ret1 (loadS tab o14 3 v14) o14) fun v15 o15 =>
 bd (callS ⟨tab, ownF, K⟩ o15 70 [v8, v11, v13, v15]) fun v16 o16 =>
 condS v16 (bd (ret1 (indexAddrS tab o16 23 x0 x6) o16) fun v17 o17 =>
 bd (ret1 (loadS tab o17 35 v17) o17) fun v18 o18 =>
 bd (buildSliceS tab o18 23 1 [(0, v18)]) fun v19 o19 =>
 bd (appendS tab o19 23 23 x5 v19) fun v20 o20 =>
 J100_4 K N nl m3 x0 x3 v20 x6 o20)
 (J100_4 K N nl m3 x0 x3 x5 x6 o16))
 (bd (ret1 (loadS tab o5 35 x3) o5) fun v21 o21 =>
 bd (buildSliceS tab o21 23 1 [(0, v21)]) fun v22 o22 =>
 bd (appendS tab o22 23 23 x5 v22) fun v23 o23 =>
 L100_9 K N nl N x0 x3 v23 (SV.v (.int .i64 0)) o23)
noncomputable def JB100_4 (K : Nat → List SV → List SO → Out) (N nl : Nat) (m3 : Nat) (x0 x3 x5 x6 : SV) (os : List SO) : Out :=
 bd (ret1 (binS tab .add 3 x6 (SV.v (.int .i64 1))) os) fun v24 o24 =>
 L100_3 K N nl m3 x0 x3 x5 v24 o24
noncomputable def GB100_9 (K : Nat → List SV → List SO → Out) (N nl : Nat) (m9 : Nat) (x0 x3 x5 x7 : SV) (os : List SO) : Out :=
 bd (lenO tab 23 os x0) fun v25 o25 =>
 bd (ret1 (binS tab .lss 3 x7 v25) o25) fun v26 o26 =>
 condS v26 (bd (ret1 (fieldAddrS tab 35 x3 0) o26) fun v27 o27 =>
 bd (ret1 (loadS tab o27 3 v27) o27) fun v28 o28 =>
 bd (ret1 (fieldAddrS tab 35 x3 1) o28) fun v29 o29 =>
 bd (ret1 (loadS tab o29 3 v29) o29) fun v30 o30 =>
 bd (ret1 (indexAddrS tab o30 23 x0 x7) o30) fun v31 o31 =>
 bd (ret1 (fieldAddrS tab 35 v31 0) o31) fun v32 o32 =>
 bd (ret1 (loadS tab o32 3 v32) o32) fun v33 o33 =>
 bd (ret1 (indexAddrS tab o33 23 x0 x7) o33) fun v34 o34 =>
 bd (ret1 (fieldAddrS tab 35 v34 1) o34) fun v35 o35 =>
 bd (ret1 (loadS tab o35 3 v35) o35) fun v36 o36 =>
 bd (callS ⟨tab, ownF, K⟩ o36 70 [v28, v30, v33, v36]) fun v37 o37 =>
 condS v37 (bd (ret1 (indexAddrS tab o37 23 x0 x7) o37) fun v38 o38 =>
 bd (ret1 (loadS tab o38 35 v38) o38) fun v39 o39 =>
 bd (buildSliceS tab o39 23 1 [(0, v39)]) fun v40 o40 =>
 bd (appendS tab o40 23 23 x5 v40) fun v41 o41 =>
 J100_10 K N nl m9 x0 x3 v41 x7 o41)
 (J100_10 K N nl m9 x0 x3 x5 x7 o37))
 (retV tab nl o26 (resC1 (some x5) (some [])))
noncomputable def JB100_10 (K : Nat → List SV → List SO → Out) (N nl : Nat) (m9 : Nat) (x0 x3 x5 x7 : SV) (os : List SO) : Out :=
 bd (ret1 (binS tab .add 3 x7 (SV.v (.int .i64 1))) os) fun v42 o42 =>
 L100_9 K N nl m9 x0 x3 x5 v42 o42
noncomputable def X100 (K : Nat → List SV → List SO → Out) (N nl : Nat) (x0 x1 : SV) (os : List SO) : Out := exec (cx K) N nl fi100 c100 [(0, x0), (1, x1)] os (kEnd tab [] nl rs100)
noncomputable def B100 (K : Nat → List SV → List SO → Out) (N nl : Nat) (x0 x1 : SV) (os : List SO) : Out :=
 bd (boxS tab os 35 (some x1)) fun v1 o1 =>
 bd (evN tab 23 o1 none) fun v2 o2 =>
 bd (buildSliceS tab o2 23 0 []) fun v3 o3 =>
 L100_3 K N nl N x0 v1 v3 (SV.v (.int .i64 0)) o3
noncomputable def bk101_2 (K : Nat → List SV → List SO → Out) (N nl : Nat) (m2 : Nat) : Env → List SO → Out := fun env os => loopS nl (fi101.lp 2) (fun env os nx => exec (cx K) N nl fi101 (subC c101 [1, 0, 1, 0, 0]) env os (kLoop nx (kBlock 0 (kSeq (exec (cx K) N nl fi101 (subC c101 [1, 1])) (fi101.jn 6) (kEnd tab [] nl rs101))))) m2 (killS (fi101.lp 2).alive env) os
noncomputable def L101_2 (K : Nat → List SV → List SO → Out) (N nl : Nat) (m2 : Nat) (x0 x3 : SV) (os : List SO) : Out := loopS nl (fi101.lp 2) (fun env os nx => exec (cx K) N nl fi101 (subC c101 [1, 0, 1, 0, 0]) env os (kLoop nx (kBlock 0 (kSeq (exec (cx K) N nl fi101 (subC c101 [1, 1])) (fi101.jn 6) (kEnd tab [] nl rs101))))) m2 [(0, x0), (3, x3)] os
noncomputable def LB101_2 (K : Nat → List SV → List SO → Out) (N nl : Nat) (m2 : Nat) (x0 x3 : SV) (os : List SO) : Out :=
 bd (lenO tab 32 os x0) fun v1 o1 =>
 bd (ret1 (binS tab .lss 3 x3 v1) o1) fun v2 o2 =>
 condS v2 (bd (ret1 (indexAddrS tab o2 32 x0 x3) o2) fun v3 o3 =>
 bd (ret1 (fieldAddrS tab 88 v3 0) o3) fun v4 o4 =>
 bd (ret1 (loadS tab o4 3 v4) o4) fun v5 o5 =>
 bd (callS ⟨tab, ownF, K⟩ o5 73 [v5, (SV.v (.int .i64 0)), (SV.v (.int .i64 5))]) fun v6 o6 =>
 bd (ret1 (unS .not v6) o6) fun v7 o7 =>
 bd (gd v7 false (some (x0, o7)) o7) fun v8 o8 =>
 bd (gd v7 false (some (x3, o8)) o8) fun v9 o9 =>
 bd (gd v7 false (ret1 (indexAddrS tab o9 32 v8 v9) o9) o9) fun v10 o10 =>
 bd (gd v7 false (ret1 (fieldAddrS tab 88 v10 1) o10) o10) fun v11 o11 =>
 bd (gd v7 false (ret1 (loadS tab o11 3 v11) o11) o11) fun v12 o12 =>
 bd (gd v7 false (callS ⟨tab, ownF, K⟩ o12 73 [v12, (SV.v (.int .i64 0)), (SV.v (.int .i64 9))]) o12) fun v13 o13 =>
 bd (gd v7 false (ret1 (unS .not v13) o13) o13) fun v14 o14 =>
 bd (ret1 (pickS v7 (SV.v (.bool true)) v14) o14) fun v15 o15 =>
 bd (gd v15 false (some (x3, o15)) o15) fun v16 o16 =>
 bd (gd v15 false (ret1 (binS tab .gtr 3 v16 (SV.v (.int .i64 0))) o16) o16) fun v17 o17 =>
 bd (gd v15 false (some (v17, o17)) o17) fun v18 o18 =>
 bd (gd v18 true (some (x0, o18)) o18) fun v19 o19 =>
 bd (gd v18 true (some (x3, o19)) o19) fun v20 o20 =>
 bd (gd v18 true (ret1 (binS tab .sub 3 v20 (SV.v (.int .i64 1))) o20) o20) fun v21 o21 =>
 bd (gd v18 true (ret1 (indexAddrS tab o21 32 v19 v21) o21) o21) fun v22 o22 =>
 bd (gd v18 true (ret1 (fieldAddrS tab 88 v22 0) o22) o22) fun v23 o23 =>
 bd (gd v18 true (ret1 (loadS tab o23 3 v23) o23) o23) fun v24 o24 =>
 bd (gd v18 true (some (x0, o24)) o24) fun v25 o25 =>
 bd (gd v18 true (some (x3, o25)) o25) fun v26 o26 =>
 bd (gd v18 true (ret1 (indexAddrS tab o26 32 v25 v26) o26) o26) fun v27 o27 =>
 bd (gd v18 true (ret1 (fieldAddrS tab 88 v27 0) o27) o27) fun v28 o28 =>
 bd (gd v18 true (ret1 (loadS tab o28 3 v28) o28) o28) fun v29 o29 =>
 bd (gd v18 true (ret1 (binS tab .geq 3 v24 v29) o29) o29) fun v30 o30 =>
 bd (gd v15 false (ret1 (pickS v18 v30 (SV.v (.bool false))) o30) o30) fun v31 o31 =>
 bd (ret1 (pickS v15 (SV.v (.bool true)) v31) o31) fun v32 o32 =>
 condS v32 (retV tab nl o32 (resC1 (some (SV.v (.bool false))) (some [])))
 (bd (ret1 (binS tab .add 3 x3 (SV.v (.int .i64 1))) o32) fun v33 o33 =>
 L101_2 K N nl m2 x0 v33 o33))
 (bd (lenO tab 32 o2 x0) fun v34 o34 =>
 bd (ret1 (binS tab .leq 3 v34 (SV.v (.int .i64 2))) o34) fun v35 o35 =>
 retV tab nl o35 (resC1 (some v35) (some [])))
noncomputable def X101 (K : Nat → List SV → List SO → Out) (N nl : Nat) (x0 : SV) (os : List SO) : Out := exec (cx K) N nl fi101 c101 [(0, x0)] os (kEnd tab [] nl rs101)
noncomputable def B101 (K : Nat → List SV → List SO → Out) (N nl : Nat) (x0 : SV) (os : List SO) : Out :=
 L101_2 K N nl N x0 (SV.v (.int .i64 0)) os
noncomputable def bk102_2 (K : Nat → List SV → List SO → Out) (N nl : Nat) (m2 : Nat) : Env → List SO → Out := fun env os => loopS nl (fi102.lp 2) (fun env os nx => exec (cx K) N nl fi102 (subC c102 [1, 0, 1, 0, 0]) env os (kLoop nx (kBlock 0 (kSeq (exec (cx K) N nl fi102 (subC c102 [1, 1])) (fi102.jn 7) (kEnd tab [] nl rs102))))) m2 (killS (fi102.lp 2).alive env) os
noncomputable def L102_2 (K : Nat → List SV → List SO → Out) (N nl : Nat) (m2 : Nat) (x0 x1 x5 : SV) (os : List SO) : Out := loopS nl (fi102.lp 2) (fun env os nx => exec (cx K) N nl fi102 (subC c102 [1, 0, 1, 0, 0]) env os (kLoop nx (kBlock 0 (kSeq (exec (cx K) N nl fi102 (subC c102 [1, 1])) (fi102.jn 7) (kEnd tab [] nl rs102))))) m2 [(0, x0), (1, x1), (5, x5)] os
noncomputable def G102_2 (K : Nat → List SV → List SO → Out) (N nl : Nat) (m2 : Nat) (xs : List SV) (os : List SO) : Out := (fun env os nx => exec (cx K) N nl fi102 (subC c102 [1, 0, 1, 0, 0]) env os (kLoop nx (kBlock 0 (kSeq (exec (cx K) N nl fi102 (subC c102 [1, 1])) (fi102.jn 7) (kEnd tab [] nl rs102))))) (zipE [0, 1, 5] xs) os (bk102_2 K N nl m2)
noncomputable def GB102_2 (K : Nat → List SV → List SO → Out) (N nl : Nat) (m2 : Nat) (x0 x1 x5 : SV) (os : List SO) : Out :=
 bd (lenO tab 33 os x1) fun v1 o1 =>
 bd (ret1 (binS tab .lss 3 x5 v1) o1) fun v2 o2 =>
 condS v2 (bd (ret1 (indexAddrS tab o2 33 x1 x5) o2) fun v3 o3 =>
 bd (ret1 (loadS tab o3 91 v3) o3) fun v4 o4 =>
 bd (allocS tab o4 91) fun v5 o5 =>
 bd (storeO tab o5 91 v5 (some v4)) fun v6 o6 =>
 bd (ret1 (fieldAddrS tab 91 v5 0) o6) fun v7 o7 =>
 bd (ret1 (loadS tab o7 3 v7) o7) fun v8 o8 =>
 bd (callS ⟨tab, ownF, K⟩ o8 73 [v8, (SV.v (.int .i64 1)), (SV.v (.int .i64 4))]) fun v9 o9 =>
 bd (ret1 (unS .not v9) o9) fun v10 o10 =>
 bd (gd v10 false (ret1 (fieldAddrS tab 91 v5 0) o10) o10) fun v11 o11 =>
 bd (gd v10 false (ret1 (loadS tab o11 3 v11) o11) o11) fun v12 o12 =>
 bd (gd v10 false (some (x0, o12)) o12) fun v13 o13 =>
 bd (gd v10 false (ret1 (binS tab .eql 3 v12 v13) o13) o13) fun v14 o14 =>
 bd (ret1 (pickS v10 (SV.v (.bool true)) v14) o14) fun v15 o15 =>
 bd (gd v15 false (ret1 (fieldAddrS tab 91 v5 1) o15) o15) fun v16 o16 =>
 bd (gd v15 false (ret1 (loadS tab o16 3 v16) o16) o16) fun v17 o17 =>
 bd (gd v15 false (callS ⟨tab, ownF, K⟩ o17 73 [v17, (SV.v (.int .i64 1)), (SV.v (.int .i64 5))]) o17) fun v18 o18 =>
 bd (gd v15 false (ret1 (unS .not v18) o18) o18) fun v19 o19 =>
 bd (ret1 (pickS v15 (SV.v (.bool true)) v19) o19) fun v20 o20 =>
 bd (gd v20 false (some (x5, o20)) o20) fun v21 o21 =>
 bd (gd v20 false (ret1 (binS tab .gtr 3 v21 (SV.v (.int .i64 0))) o21) o21) fun v22 o22 =>
 bd (gd v20 false (some (v22, o22)) o22) fun v23 o23 =>
 bd (gd v23 true (some (x1, o23)) o23) fun v24 o24 =>
 bd (gd v23 true (some (x5, o24)) o24) fun v25 o25 =>
 bd (gd v23 true (ret1 (binS tab .sub 3 v25 (SV.v (.int .i64 1))) o25) o25) fun v26 o26 =>
 bd (gd v23 true (ret1 (indexAddrS tab o26 33 v24 v26) o26) o26) fun v27 o27 =>
 bd (gd v23 true (ret1 (fieldAddrS tab 91 v27 0) o27) o27) fun v28 o28 =>
 bd (gd v23 true (ret1 (loadS tab o28 3 v28) o28) o28) fun v29 o29 =>
 bd (gd v23 true (ret1 (fieldAddrS tab 91 v5 0) o29) o29) fun v30 o30 =>
 bd (gd v23 true (ret1 (loadS tab o30 3 v30) o30) o30) fun v31 o31 =>
 bd (gd v23 true (ret1 (binS tab .geq 3 v29 v31) o31) o31) fun v32 o32 =>
 bd (gd v20 false (ret1 (pickS v23 v32 (SV.v (.bool false))) o32) o32) fun v33 o33 =>
 bd (ret1 (pickS v20 (SV.v (.bool true)) v33) o33) fun v34 o34 =>
 condS v34 (retV tab nl o34 (resC1 (some (SV.v (.bool false))) (some [])))
 (bd (ret1 (binS tab .add 3 x5 (SV.v (.int .i64 1))) o34) fun v35 o35 =>
 L102_2 K N nl m2 x0 x1 v35 o35))
 (bd (lenO tab 33 o2 x1) fun v36 o36 =>
 bd (ret1 (binS tab .leq 3 v36 (SV.v (.int .i64 2))) o36) fun v37 o37 =>
 retV tab nl o37 (resC1 (some v37) (some [])))
noncomputable def X102 (K : Nat → List SV → List SO → Out) (N nl : Nat) (x0 x1 : SV) (os : List SO) : Out := exec (cx K) N nl fi102 c102 [(0, x0), (1, x1)] os (kEnd tab [] nl rs102)
noncomputable def B102 (K : Nat → List SV → List SO → Out) (N nl : Nat) (x0 x1 : SV) (os : List SO) : Out :=
 L102_2 K N nl N x0 x1 (SV.v (.int .i64 0)) os
noncomputable def bk103_3 (K : Nat → List SV → List SO → Out) (N nl : Nat) (m3 : Nat) : Env → List SO → Out := fun env os => loopS nl (fi103.lp 3) (fun env os nx => exec (cx K) N nl fi103 (subC c103 [1, 1, 0, 1, 0, 0]) env os (kLoop nx (kBlock 0 (kSeq (exec (cx K) N nl fi103 (subC c103 [1, 1, 1])) (fi103.jn 8) (kEnd tab [] nl rs103))))) m3 (killS (fi103.lp 3).alive env) os
noncomputable def L103_3 (K : Nat → List SV → List SO → Out) (N nl : Nat) (m3 : Nat) (x3 x6 x7 x8 : SV) (os : List SO) : Out := loopS nl (fi103.lp 3) (fun env os nx => exec (cx K) N nl fi103 (subC c103 [1, 1, 0, 1, 0, 0]) env os (kLoop nx (kBlock 0 (kSeq (exec (cx K) N nl fi103 (subC c103 [1, 1, 1])) (fi103.jn 8) (kEnd tab [] nl rs103))))) m3 [(3, x3), (6, x6), (7, x7), (8, x8)] os
noncomputable def LB103_3 (K : Nat → List SV → List SO → Out) (N nl : Nat) (m3 : Nat) (x3 x6 x7 x8 : SV) (os : List SO) : Out :=
 bd (ret1 (binS tab .lss 3 x8 x7) os) fun v2 o2 =>
 condS v2 (bd (ret1 (indexAddrS tab o2 43 x6 x8) o2) fun v3 o3 =>
 bd (ret1 (loadS tab o3 3 v3) o3) fun v4 o4 =>
 bd (ret1 (binS tab .neq 3 v4 x3) o4) fun v5 o5 =>
 condS v5 (retV tab nl o5 (resC1 (some v4) (some [])))
 (bd (ret1 (binS tab .add 3 x8 (SV.v (.int .i64 1))) o5) fun v6 o6 =>
 L103_3 K N nl m3 x3 x6 x7 v6 o6))
 (retV tab nl o2 (resC1 (some x3) (some [])))
noncomputable def X103 (K : Nat → List SV → List SO → Out) (N nl : Nat) (x0 : SV) (os : List SO) : Out := exec (cx K) N nl fi103 c103 [(0, x0)] os (kEnd tab [] nl rs103)
noncomputable def B103 (K : Nat → List SV → List SO → Out) (N nl : Nat) (x0 : SV) (os : List SO) : Out :=
 bd (lenO tab 43 os x0) fun v1 o1 =>
 L103_3 K N nl N (SV.v (.int .i64 0)) x0 v1 (SV.v (.int .i64 0)) o1
noncomputable def X104 (K : Nat → List SV → List SO → Out) (N nl : Nat) (x0 x1 : SV) (os : List SO) : Out := exec (cx K) N nl fi104 c104 [(0, x0), (1, x1)] os (kEnd tab [] nl rs104)
noncomputable def B104 (K : Nat → List SV → List SO → Out) (N nl : Nat) (x0 x1 : SV) (os : List SO) : Out :=
 bd (callS ⟨tab, ownF, K⟩ os 119 [x0]) fun v1 o1 =>
 bd (callS ⟨tab, ownF, K⟩ o1 119 [x1]) fun v2 o2 =>
 condS v1 (condS v2 (retV tab nl o2 (resC1 (some (SV.v (.int .i64 0))) (some [])))
 (retV tab nl o2 (resC1 (some (SV.v (.int .i64 (-1)))) (some []))))
 (condS v2 (retV tab nl o2 (resC1 (some (SV.v (.int .i64 1))) (some [])))
 (bd (ret1 (binS tab .lss 3 x0 x1) o2) fun v3 o3 =>
 condS v3 (retV tab nl o3 (resC1 (some (SV.v (.int .i64 (-1)))) (some [])))
 (bd (ret1 (binS tab .gtr 3 x0 x1) o3) fun v4 o4 =>
 condS v4 (retV tab nl o4 (resC1 (some (SV.v (.int .i64 1))) (some [])))
 (retV tab nl o4 (resC1 (some (SV.v (.int .i64 0))) (some []))))))
noncomputable def bk105_11 (K : Nat → List SV → List SO → Out) (N nl : Nat) (m11 : Nat) : Env → List SO → Out := fun env os => loopS nl (fi105.lp 11) (fun env os nx => exec (cx K) N nl fi105 (subC c105 [1, 1, 1, 1, 1, 1, 1, 1, 0, 0, 0]) env os (kLoop nx (kBlock 0 (kSeq (exec (cx K) N nl fi105 (subC c105 [1, 1, 1, 1, 1, 1, 1, 1, 1])) (fi105.jn 17) (kEnd tab [0] nl rs105))))) m11 (killS (fi105.lp 11).alive env) os
noncomputable def J105_7 (K : Nat → List SV → List SO → Out) (N nl : Nat) (x0 x1 x2 x3 : SV) (os : List SO) : Out := exec (cx K) N nl fi105 (subC c105 [1, 1, 1, 1]) [(0, x0), (1, x1), (2, x2), (3, x3)] os (kEnd tab [0] nl rs105)
noncomputable def L105_11 (K : Nat → List SV → List SO → Out) (N nl : Nat) (m11 : Nat) (x0 x1 x2 x3 x9 x10 : SV) (os : List SO) : Out := loopS nl (fi105.lp 11) (fun env os nx => exec (cx K) N nl fi105 (subC c105 [1, 1, 1, 1, 1, 1, 1, 1, 0, 0, 0]) env os (kLoop nx (kBlock 0 (kSeq (exec (cx K) N nl fi105 (subC c105 [1, 1, 1, 1, 1, 1, 1, 1, 1])) (fi105.jn 17) (kEnd tab [0] nl rs105))))) m11 [(0, x0), (1, x1), (2, x2), (3, x3), (9, x9), (10, x10)] os
noncomputable def J105_17 (K : Nat → List SV → List SO → Out) (N nl : Nat) (x0 x9 x10 : SV) (os : List SO) : Out := exec (cx K) N nl fi105 (subC c105 [1, 1, 1, 1, 1, 1, 1, 1, 1]) [(0, x0), (9, x9), (10, x10)] os (kEnd tab [0] nl rs105)
noncomputable def JB105_7 (K : Nat → List SV → List SO → Out) (N nl : Nat) (x0 x1 x2 x3 : SV) (os : List SO) : Out :=
 bd (lenO tab 9 os x0) fun v9 o9 =>
 bd (ret1 (binS tab .add 3 v9 (SV.v (.int .i64 1))) o9) fun v10 o10 =>
 bd (ret1 (minS x3 v10) o10) fun v11 o11 =>
 bd (makeS tab o11 119 v11 v11) fun v12 o12 =>
 bd (ret1 (binS tab .sub 3 v11 (SV.v (.int .i64 1))) o12) fun v13 o13 =>
 L105_11 K N nl N x0 x1 x2 v13 v12 (SV.v (.int .i64 0)) o13
noncomputable def LB105_11 (K : Nat → List SV → List SO → Out) (N nl : Nat) (m11 : Nat) (x0 x1 x2 x3 x9 x10 : SV) (os : List SO) : Out :=
 bd (ret1 (binS tab .lss 3 x10 x3) os) fun v14 o14 =>
 condS v14 (bd (callS ⟨tab, ownF, K⟩ o14 122 [x0, x1]) fun v15 o15 =>
 bd (ret1 (binS tab .lss 3 v15 (SV.v (.int .i64 0))) o15) fun v16 o16 =>
 condS v16 (J105_17 K N nl x0 x9 x10 o16)
 (bd (ret1 (binS tab .add 3 v15 x2) o16) fun v17 o17 =>
 bd (ret1 (sliceS tab o17 9 x0 none (some v17)) o17) fun v18 o18 =>
 bd (ret1 (indexAddrS tab o18 119 x9 x10) o18) fun v19 o19 =>
 bd (storeO tab o19 9 v19 (some v18)) fun v20 o20 =>
 bd (lenO tab 9 o20 x1) fun v21 o21 =>
 bd (ret1 (binS tab .add 3 v15 v21) o21) fun v22 o22 =>
 bd (ret1 (sliceS tab o22 9 x0 (some v22) none) o22) fun v23 o23 =>
 bd (ret1 (binS tab .add 3 x10 (SV.v (.int .i64 1))) o23) fun v24 o24 =>
 L105_11 K N nl m11 v23 x1 x2 x3 x9 v24 o24))
 (J105_17 K N nl x0 x9 x10 o14)
noncomputable def JB105_17 (K : Nat → List SV → List SO → Out) (N nl : Nat) (x0 x9 x10 : SV) (os : List SO) : Out :=
 bd (ret1 (indexAddrS tab os 119 x9 x10) os) fun v25 o25 =>
 bd (storeO tab o25 9 v25 (some x0)) fun v26 o26 =>
 bd (ret1 (binS tab .add 3 x10 (SV.v (.int .i64 1))) o26) fun v27 o27 =>
 bd (ret1 (sliceS tab o27 119 x9 none (some v27)) o27) fun v28 o28 =>
 retP tab [0] nl o28 (resC1 (some v28) (some []))
noncomputable def X105 (K : Nat → List SV → List SO → Out) (N nl : Nat) (x0 x1 x2 x3 : SV) (os : List SO) : Out := exec (cx K) N nl fi105 c105 [(0, x0), (1, x1), (2, x2), (3, x3)] os (kEnd tab [0] nl rs105)
noncomputable def B105 (K : Nat → List SV → List SO → Out) (N nl : Nat) (x0 x1 x2 x3 : SV) (os : List SO) : Out :=
 bd (evN tab 119 os none) fun v1 o1 =>
 bd (ret1 (binS tab .eql 3 x3 (SV.v (.int .i64 0))) o1) fun v2 o2 =>
 condS v2 (bd (evN tab 119 o2 none) fun v3 o3 =>
 retP tab [0] nl o3 (resC1 (some v3) (some [])))
 (bd (ret1 (binS tab .eql 9 x1 (SV.v (.string ⟨#[]⟩))) o2) fun v4 o4 =>
 condS v4 (bd (callS ⟨tab, ownF, K⟩ o4 120 [x0, x3]) fun v5 o5 =>
 retP tab [0] nl o5 (resC1 (some v5) (some [])))
 (bd (ret1 (binS tab .lss 3 x3 (SV.v (.int .i64 0))) o4) fun v6 o6 =>
 condS v6 (bd (callS ⟨tab, ownF, K⟩ o6 121 [x0, x1]) fun v7 o7 =>
 bd (ret1 (binS tab .add 3 v7 (SV.v (.int .i64 1))) o7) fun v8 o8 =>
 J105_7 K N nl x0 x1 x2 v8 o8)
 (J105_7 K N nl x0 x1 x2 x3 o6)))
noncomputable def X106 (K : Nat → List SV → List SO → Out) (N nl : Nat) (x0 x1 : SV) (os : List SO) : Out := exec (cx K) N nl fi106 c106 [(0, x0), (1, x1)] os (kEnd tab [] nl rs106)
noncomputable def B106 (K : Nat → List SV → List SO → Out) (N nl : Nat) (x0 x1 : SV) (os : List SO) : Out :=
 bd (callS ⟨tab, ownF, K⟩ os 123 [x0, x1]) fun v1 o1 =>
 bd (ret1 (binS tab .geq 3 v1 (SV.v (.int .i64 0))) o1) fun v2 o2 =>
 condS v2 (bd (ret1 (sliceS tab o2 9 x0 none (some v1)) o2) fun v3 o3 =>
 bd (lenO tab 9 o3 x1) fun v4 o4 =>
 bd (ret1 (binS tab .add 3 v1 v4) o4) fun v5 o5 =>
 bd (ret1 (sliceS tab o5 9 x0 (some v5) none) o5) fun v6 o6 =>
 retV tab nl o6 (resC1 (some v3) (resC1 (some v6) (resC1 (some (SV.v (.bool true))) (some [])))))
 (retV tab nl o2 (resC1 (some x0) (resC1 (some (SV.v (.string ⟨#[]⟩))) (resC1 (some (SV.v (.bool false))) (some [])))))
noncomputable def bk107_10 (K : Nat → List SV → List SO → Out) (N nl : Nat) (m10 : Nat) : Env → List SO → Out := fun env os => loopS nl (fi107.lp 10) (fun env os nx => exec (cx K) N nl fi107 (subC c107 [1, 1, 0, 1, 0, 1, 1, 1, 0, 1, 0, 0]) env os (kLoop nx (kBlock 0 (kSeq (exec (cx K) N nl fi107 (subC c107 [1, 1, 0, 1, 0, 1, 1, 1, 1])) (fi107.jn 17) (kSeq (exec (cx K) N nl fi107 (subC c107 [1, 1, 1])) (fi107.jn 20) (kEnd tab [] nl rs107)))))) m10 (killS (fi107.lp 10).alive env) os
noncomputable def bk111_2 (K : Nat → List SV → List SO → Out) (N nl : Nat) (m2 : Nat) : Env → List SO → Out := fun env os => loopS nl (fi111.lp 2) (fun env os nx => exec (cx K) N nl fi111 (subC c111 [1, 0, 1, 0, 0]) env os (kLoop nx (kBlock 0 (kSeq (exec (cx K) N nl fi111 (subC c111 [1, 1])) (fi111.jn 6) (kEnd tab [] nl rs111))))) m2 (killS (fi111.lp 2).alive env) os
noncomputable def X113 (K : Nat → List SV → List SO → Out) (N nl : Nat) (x0 : SV) (os : List SO) : Out := exec (cx K) N nl fi113 c113 [(0, x0)] os (kEnd tab [] nl rs113)
noncomputable def B113 (K : Nat → List SV → List SO → Out) (N nl : Nat) (x0 : SV) (os : List SO) : Out :=
 bd (boxS tab os 155 (some x0)) fun v1 o1 =>
 bd (allocS tab o1 88) fun v2 o2 =>
 bd (allocS tab o2 88) fun v3 o3 =>
 bd (ret1 (fieldAddrS tab 155 v1 0) o3) fun v4 o4 =>
 bd (ret1 (loadS tab o4 3 v4) o4) fun v5 o5 =>
 bd (ret1 (fieldAddrS tab 88 v3 0) o5) fun v6 o6 =>
 bd (storeO tab o6 3 v6 (some v5)) fun v7 o7 =>
 bd (ret1 (fieldAddrS tab 155 v1 1) o7) fun v8 o8 =>
 bd (ret1 (loadS tab o8 3 v8) o8) fun v9 o9 =>
 bd (ret1 (fieldAddrS tab 88 v3 1) o9) fun v10 o10 =>
 bd (storeO tab o10 3 v10 (some v9)) fun v11 o11 =>
 bd (ret1 (loadS tab o11 88 v3) o11) fun v12 o12 =>
 bd (storeO tab o12 88 v2 (some v12)) fun v13 o13 =>
 retV tab nl o13 (resC1 (loadS tab o13 88 v2) (some []))
noncomputable def X114 (K : Nat → List SV → List SO → Out) (N nl : Nat) (x0 : SV) (os : List SO) : Out := exec (cx K) N nl fi114 c114 [(0, x0)] os (kEnd tab [] nl rs114)
noncomputable def B114 (K : Nat → List SV → List SO → Out) (N nl : Nat) (x0 : SV) (os : List SO) : Out :=
 bd (boxS tab os 157 (some x0)) fun v1 o1 =>
 bd (allocS tab o1 91) fun v2 o2 =>
 bd (allocS tab o2 91) fun v3 o3 =>
 bd (ret1 (fieldAddrS tab 157 v1 0) o3) fun v4 o4 =>
 bd (ret1 (loadS tab o4 3 v4) o4) fun v5 o5 =>
 bd (ret1 (fieldAddrS tab 91 v3 0) o5) fun v6 o6 =>
 bd (storeO tab o6 3 v6 (some v5)) fun v7 o7 =>
 bd (ret1 (fieldAddrS tab 157 v1 1) o7) fun v8 o8 =>
 bd (ret1 (loadS tab o8 3 v8) o8) fun v9 o9 =>
 bd (ret1 (fieldAddrS tab 91 v3 1) o9) fun v10 o10 =>
 bd (storeO tab o10 3 v10 (some v9)) fun v11 o11 =>
 bd (ret1 (loadS tab o11 91 v3) o11) fun v12 o12 =>
 bd (storeO tab o12 91 v2 (some v12)) fun v13 o13 =>
 retV tab nl o13 (resC1 (loadS tab o13 91 v2) (some []))
noncomputable def bk115_2 (K : Nat → List SV → List SO → Out) (N nl : Nat) (m2 : Nat) : Env → List SO → Out := fun env os => loopS nl (fi115.lp 2) (fun env os nx => exec (cx K) N nl fi115 (subC c115 [1, 0, 1, 0, 0]) env os (kLoop nx (kBlock 0 (kSeq (exec (cx K) N nl fi115 (subC c115 [1, 1])) (fi115.jn 7) (kEnd tab [] nl rs115))))) m2 (killS (fi115.lp 2).alive env) os
noncomputable def bk116_4 (K : Nat → List SV → List SO → Out) (N nl : Nat) (m4 : Nat) : Env → List SO → Out := fun env os => loopS nl (fi116.lp 4) (fun env os nx => exec (cx K) N nl fi116 (subC c116 [1, 1, 0, 1, 0, 0]) env os (kLoop nx (kBlock 0 (kSeq (exec (cx K) N nl fi116 (subC c116 [1, 1, 1])) (fi116.jn 9) (kEnd tab [] nl rs116))))) m4 (killS (fi116.lp 4).alive env) os
noncomputable def X119 (K : Nat → List SV → List SO → Out) (N nl : Nat) (x0 : SV) (os : List SO) : Out := exec (cx K) N nl fi119 c119 [(0, x0)] os (kEnd tab [] nl rs119)
noncomputable def B119 (K : Nat → List SV → List SO → Out) (N nl : Nat) (x0 : SV) (os : List SO) : Out :=
 bd (ret1 (binS tab .neq 3 x0 x0) os) fun v1 o1 =>
 retV tab nl o1 (resC1 (some v1) (some []))
noncomputable def bk120_6 (K : Nat → List SV → List SO → Out) (N nl : Nat) (m6 : Nat) : Env → List SO → Out := fun env os => loopS nl (fi120.lp 6) (fun env os nx => exec (cx K) N nl fi120 (subC c120 [1, 1, 1, 1, 0, 1, 0, 0]) env os (kLoop nx (kBlock 0 (kSeq (exec (cx K) N nl fi120 (subC c120 [1, 1, 1, 1, 1])) (fi120.jn 11) (kEnd tab [] nl rs120))))) m6 (killS (fi120.lp 6).alive env) os
noncomputable def bk121_6 (K : Nat → List SV → List SO → Out) (N nl : Nat) (m6 : Nat) : Env → List SO → Out := fun env os => loopS nl (fi121.lp 6) (fun env os nx => exec (cx K) N nl fi121 (subC c121 [1, 1, 1, 1, 0, 0]) env os (kLoop nx (kBlock 0 (kEnd tab [] nl rs121)))) m6 (killS (fi121.lp 6).alive env) os
noncomputable def X122 (K : Nat → List SV → List SO → Out) (N nl : Nat) (x0 x1 : SV) (os : List SO) : Out := exec (cx K) N nl fi122 c122 [(0, x0), (1, x1)] os (kEnd tab [] nl rs122)
noncomputable def B122 (K : Nat → List SV → List SO → Out) (N nl : Nat) (x0 x1 : SV) (os : List SO) : Out :=
 bd (callS ⟨tab, ownF, K⟩ os 123 [x0, x1]) fun v1 o1 =>
 retV tab nl o1 (resC1 (some v1) (some []))
noncomputable def bk123_15 (K : Nat → List SV → List SO → Out) (N nl : Nat) (m15 : Nat) : Env → List SO → Out := fun env os => loopS nl (fi123.lp 15) (fun env os nx => exec (cx K) N nl fi123 (subC c123 [1, 1, 1, 1, 1, 1, 1, 1, 0, 0, 0]) env os (kLoop nx (kBlock 1 (kSeq (exec (cx K) N nl fi123 (subC c123 [1, 1, 1, 1, 1, 1, 1, 1, 1])) (fi123.jn 35) (kEnd tab [] nl rs123))))) m15 (killS (fi123.lp 15).alive env) os
noncomputable def bk131_1 (K : Nat → List SV → List SO → Out) (N nl : Nat) (m1 : Nat) : Env → List SO → Out := fun env os => loopS nl (fi131.lp 1) (fun env os nx => exec (cx K) N nl fi131 (subC c131 [1, 0, 0, 0]) env os (kLoop nx (kBlock 0 (kSeq (exec (cx K) N nl fi131 (subC c131 [1, 1])) (fi131.jn 12) (kEnd tab [] nl rs131))))) m1 (killS (fi131.lp 1).alive env) os
noncomputable def bk132_11 (K : Nat → List SV → List SO → Out) (N nl : Nat) (m11 : Nat) : Env → List SO → Out := fun env os => loopS nl (fi132.lp 11) (fun env os nx => exec (cx K) N nl fi132 (subC c132 [1, 1, 1, 1, 1, 0, 1, 0, 1, 1, 1, 0, 0, 0]) env os (kLoop nx (kBlock 0 (kSeq (exec (cx K) N nl fi132 (subC c132 [1, 1, 1, 1, 1, 0, 1, 0, 1, 1, 1, 1])) (fi132.jn 15) (kSeq (exec (cx K) N nl fi132 (subC c132 [1, 1, 1, 1, 1, 1])) (fi132.jn 25) (kEnd tab [] nl rs132)))))) m11 (killS (fi132.lp 11).alive env) os
noncomputable def bk132_18 (K : Nat → List SV → List SO → Out) (N nl : Nat) (m18 : Nat) : Env → List SO → Out := fun env os => loopS nl (fi132.lp 18) (fun env os nx => exec (cx K) N nl fi132 (subC c132 [1, 1, 1, 1, 1, 0, 1, 1, 1, 0, 0, 0]) env os (kLoop nx (kBlock 2 (kSeq (exec (cx K) N nl fi132 (subC c132 [1, 1, 1, 1, 1, 0, 1, 1, 1, 1])) (fi132.jn 23) (kSeq (exec (cx K) N nl fi132 (subC c132 [1, 1, 1, 1, 1, 1])) (fi132.jn 25) (kEnd tab [] nl rs132)))))) m18 (killS (fi132.lp 18).alive env) os
noncomputable def bk133_2 (K : Nat → List SV → List SO → Out) (N nl : Nat) (m2 : Nat) : Env → List SO → Out := fun env os => loopS nl (fi133.lp 2) (fun env os nx => exec (cx K) N nl fi133 (subC c133 [1, 0, 1, 0, 0]) env os (kLoop nx (kBlock 0 (kSeq (exec (cx K) N nl fi133 (subC c133 [1, 1])) (fi133.jn 4) (kEnd tab [] nl rs133))))) m2 (killS (fi133.lp 2).alive env) os
noncomputable def bk139_5 (K : Nat → List SV → List SO → Out) (N nl : Nat) (m5 : Nat) : Env → List SO → Out := fun env os => loopS nl (fi139.lp 5) (fun env os nx => exec (cx K) N nl fi139 (subC c139 [1, 1, 1, 1, 0, 1, 0, 0]) env os (kLoop nx (kBlock 0 (kSeq (exec (cx K) N nl fi139 (subC c139 [1, 1, 1, 1, 1])) (fi139.jn 8) (kEnd tab [] nl rs139))))) m5 (killS (fi139.lp 5).alive env) os
noncomputable def bk139_11 (K : Nat → List SV → List SO → Out) (N nl : Nat) (m11 : Nat) : Env → List SO → Out := fun env os => loopS nl (fi139.lp 11) (fun env os nx => exec (cx K) N nl fi139 (subC c139 [1, 1, 1, 1, 1, 1, 0, 1, 0, 0]) env os (kLoop nx (kBlock 2 (kSeq (exec (cx K) N nl fi139 (subC c139 [1, 1, 1, 1, 1, 1, 1])) (fi139.jn 18) (kEnd tab [] nl rs139))))) m11 (killS (fi139.lp 11).alive env) os
noncomputable def bk140_36 (K : Nat → List SV → List SO → Out) (N nl : Nat) (m36 : Nat) : Env → List SO → Out := fun env os => loopS nl (fi140.lp 36) (fun env os nx => exec (cx K) N nl fi140 (subC c140 [1, 1, 1, 1, 1, 1, 1, 1, 1, 1, 1, 0, 1, 0, 0]) env os (kLoop nx (kBlock 3 (kSeq (exec (cx K) N nl fi140 (subC c140 [1, 1, 1, 1, 1, 1, 1, 1, 1, 1, 1, 1])) (fi140.jn 56) (kEnd tab [] nl rs140))))) m36 (killS (fi140.lp 36).alive env) os
noncomputable def bk150_3 (K : Nat → List SV → List SO → Out) (N nl : Nat) (m3 : Nat) : Env → List SO → Out := fun env os => loopS nl (fi150.lp 3) (fun env os nx => exec (cx K) N nl fi150 (subC c150 [1, 1, 0, 1, 0, 0]) env os (kLoop nx (kBlock 0 (kSeq (exec (cx K) N nl fi150 (subC c150 [1, 1, 1])) (fi150.jn 6) (kEnd tab [] nl rs150))))) m3 (killS (fi150.lp 3).alive env) os
noncomputable def bk150_8 (K : Nat → List SV → List SO → Out) (N nl : Nat) (m8 : Nat) : Env → List SO → Out := fun env os => loopS nl (fi150.lp 8) (fun env os nx => exec (cx K) N nl fi150 (subC c150 [1, 1, 1, 1, 0, 1, 0, 0]) env os (kLoop nx (kBlock 2 (kSeq (exec (cx K) N nl fi150 (subC c150 [1, 1, 1, 1, 1])) (fi150.jn 13) (kEnd tab [] nl rs150))))) m8 (killS (fi150.lp 8).alive env) os
noncomputable def bk152_10 (K : Nat → List SV → List SO → Out) (N nl : Nat) (m10 : Nat) : Env → List SO → Out := fun env os => loopS nl (fi152.lp 10) (fun env os nx => exec (cx K) N nl fi152 (subC c152 [1, 1, 1, 1, 1, 1, 0, 0, 0]) env os (kLoop nx (kBlock 0 (kSeq (exec (cx K) N nl fi152 (subC c152 [1, 1, 1, 1, 1, 1, 1])) (fi152.jn 21) (kEnd tab [] nl rs152))))) m10 (killS (fi152.lp 10).alive env) os
theorem J3_11_s (K : Nat → List SV → List SO → Out) (N nl : Nat) (x7 x12 x13 : SV) (os : List SO) : J3_11 K N nl x7 x12 x13 os = JB3_11 K N nl x7 x12 x13 os := by kernel_rfl
theorem L3_12_s (K : Nat → List SV → List SO → Out) (N nl : Nat) (m12 : Nat) (x7 x12 x13 x14 : SV) (os : List SO) : L3_12 K N nl (m12 + 1) x7 x12 x13 x14 os = gcB nl [x7, x12, x13, x14] os fun xs os => G3_12 K N nl m12 xs os := by kernel_rfl
theorem G3_12_s (K : Nat → List SV → List SO → Out) (N nl : Nat) (m12 : Nat) (x7 x12 x13 x14 : SV) (os : List SO) : G3_12 K N nl m12 [x7, x12, x13, x14] os = GB3_12 K N nl m12 x7 x12 x13 x14 os := by kernel_rfl
theorem J3_15_s (K : Nat → List SV → List SO → Out) (N nl : Nat) (m12 : Nat) (x7 x12 x13 x14 x16 : SV) (os : List SO) : J3_15 K N nl m12 x7 x12 x13 x14 x16 os = JB3_15 K N nl m12 x7 x12 x13 x14 x16 os := by kernel_rfl
theorem X3_s (K : Nat → List SV → List SO → Out) (N nl : Nat) (x0 x1 : SV) (os : List SO) : X3 K N nl x0 x1 os = B3 K N nl x0 x1 os := by kernel_rfl
theorem E3 (n : Nat) (x0 x1 : SV) (os : List SO) : callF prg (n + 1) 3 [x0, x1] os = X3 (callF prg n) (n + 1) os.length x0 x1 os := by kernel_rfl
theorem U3 {Q : SV → List SO → Prop} {x0 x1 : SV} {os : List SO} {nl : Nat} (hnl : os.length = nl) (h : Ev (fun n => B3 (callF prg n) (n + 1) nl x0 x1 os) Q) : Ev (fun n => callF prg n 3 [x0, x1] os) Q := by subst hnl; exact ev_fun (fun n => (E3 n _ _ _).trans (X3_s _ _ _ _ _ _)) h
theorem L4_9_s (K : Nat → List SV → List SO → Out) (N nl : Nat) (m9 : Nat) (x3 x4 x5 x8 x10 : SV) (os : List SO) : L4_9 K N nl (m9 + 1) x3 x4 x5 x8 x10 os = gcB nl [x3, x4, x5, x8, x10] os fun xs os => G4_9 K N nl m9 xs os := by kernel_rfl
theorem G4_9_s (K : Nat → List SV → List SO → Out) (N nl : Nat) (m9 : Nat) (x3 x4 x5 x8 x10 : SV) (os : List SO) : G4_9 K N nl m9 [x3, x4, x5, x8, x10] os = GB4_9 K N nl m9 x3 x4 x5 x8 x10 os := by kernel_rfl
theorem J4_12_s (K : Nat → List SV → List SO → Out) (N nl : Nat) (m9 : Nat) (x3 x4 x5 x8 x10 x11 x12 : SV) (os : List SO) : J4_12 K N nl m9 x3 x4 x5 x8 x10 x11 x12 os = JB4_12 K N nl m9 x3 x4 x5 x8 x10 x11 x12 os := by kernel_rfl
theorem X4_s (K : Nat → List SV → List SO → Out) (N nl : Nat) (x0 : SV) (os : List SO) : X4 K N nl x0 os = B4 K N nl x0 os := by kernel_rfl
theorem X6_s (K : Nat → List SV → List SO → Out) (N nl : Nat) (x0 : SV) (os : List SO) : X6 K N nl x0 os = B6 K N nl x0 os := by kernel_rfl
theorem E6 (n : Nat) (x0 : SV) (os : List SO) : callF prg (n + 1) 6 [x0] os = X6 (callF prg n) (n + 1) os.length x0 os := by kernel_rfl
theorem U6 {Q : SV → List SO → Prop} {x0 : SV} {os : List SO} {nl : Nat} (hnl : os.length = nl) (h : Ev (fun n => B6 (callF prg n) (n + 1) nl x0 os) Q) : Ev (fun n => callF prg n 6 [x0] os) Q := by subst hnl; exact ev_fun (fun n => (E6 n _ _).trans (X6_s _ _ _ _ _)) h
theorem L7_5_s (K : Nat → List SV → List SO → Out) (N nl : Nat) (m5 : Nat) (x2 x6 x8 x9 : SV) (os : List SO) : L7_5 K N nl (m5 + 1) x2 x6 x8 x9 os = gcB nl [x2, x6, x8, x9] os fun xs os => G7_5 K N nl m5 xs os := by kernel_rfl
theorem UL7_5 {nl c : Nat} {Q : SV → List SO → Prop} {x2 x6 x8 x9 : SV} {os : List SO} (h : Ev (fun n => gcB nl [x2, x6, x8, x9] os fun xs os => G7_5 (callF prg n) (n + 1) nl (n + 1 - (c + 1)) xs os) Q) : Ev (fun n => L7_5 (callF prg n) (n + 1) nl (n + 1 - c) x2 x6 x8 x9 os) Q := ev_loop (L := fun n m => L7_5 (callF prg n) (n + 1) nl m x2 x6 x8 x9 os) (fun n m => L7_5_s _ _ _ _ _ _ _ _ _) h
theorem VL7_5 {nl : Nat} {Q : SV → List SO → Prop} {x2 x6 x8 x9 : SV} {os : List SO} (h : Ev (fun n => gcB nl [x2, x6, x8, x9] os fun xs os => G7_5 (callF prg n) (n + 1) nl (n + 1 - 1) xs os) Q) : Ev (fun n => L7_5 (callF prg n) (n + 1) nl (n + 1) x2 x6 x8 x9 os) Q := UL7_5 (c := 0) h
theorem G7_5_s (K : Nat → List SV → List SO → Out) (N nl : Nat) (m5 : Nat) (x2 x6 x8 x9 : SV) (os : List SO) : G7_5 K N nl m5 [x2, x6, x8, x9] os = GB7_5 K N nl m5 x2 x6 x8 x9 os := by kernel_rfl
theorem UG7_5 {nl : Nat} {Q : SV → List SO → Prop} (m5 : Nat → Nat) {x2 x6 x8 x9 : SV} {os : List SO} (h : Ev (fun n => GB7_5 (callF prg n) (n + 1) nl (m5 n) x2 x6 x8 x9 os) Q) : Ev (fun n => G7_5 (callF prg n) (n + 1) nl (m5 n) [x2, x6, x8, x9] os) Q := ev_eq (fun n => G7_5_s _ _ _ _ _ _ _ _ _) h
theorem J7_6_s (K : Nat → List SV → List SO → Out) (N nl : Nat) (m5 : Nat) (x2 x6 x8 x9 : SV) (os : List SO) : J7_6 K N nl m5 x2 x6 x8 x9 os = JB7_6 K N nl m5 x2 x6 x8 x9 os := by kernel_rfl
theorem UJ7_6 {nl : Nat} {Q : SV → List SO → Prop} {m5 : Nat → Nat} {x2 x6 x8 x9 : SV} {os : List SO} (h : Ev (fun n => JB7_6 (callF prg n) (n + 1) nl (m5 n) x2 x6 x8 x9 os) Q) : Ev (fun n => J7_6 (callF prg n) (n + 1) nl (m5 n) x2 x6 x8 x9 os) Q := ev_eq (fun n => J7_6_s _ _ _ _ _ _ _ _ _) h
theorem X7_s (K : Nat → List SV → List SO → Out) (N nl : Nat) (x0 x1 x2 : SV) (os : List SO) : X7 K N nl x0 x1 x2 os = B7 K N nl x0 x1 x2 os := by kernel_rfl
theorem E7 (n : Nat) (x0 x1 x2 : SV) (os : List SO) : callF prg (n + 1) 7 [x0, x1, x2] os = X7 (callF prg n) (n + 1) os.length x0 x1 x2 os := by kernel_rfl
theorem U7 {Q : SV → List SO → Prop} {x0 x1 x2 : SV} {os : List SO} {nl : Nat} (hnl : os.length = nl) (h : Ev (fun n => B7 (callF prg n) (n + 1) nl x0 x1 x2 os) Q) : Ev (fun n => callF prg n 7 [x0, x1, x2] os) Q := by subst hnl; exact ev_fun (fun n => (E7 n _ _ _ _).trans (X7_s _ _ _ _ _ _ _)) h
theorem L8_5_s (K : Nat → List SV → List SO → Out) (N nl : Nat) (m5 : Nat) (x6 x8 x18 x19 x20 : SV) (os : List SO) : L8_5 K N nl (m5 + 1) x6 x8 x18 x19 x20 os = gcB nl [x6, x8, x18, x19, x20] os fun xs os => G8_5 K N nl m5 xs os := by kernel_rfl
theorem G8_5_s (K : Nat → List SV → List SO → Out) (N nl : Nat) (m5 : Nat) (x6 x8 x18 x19 x20 : SV) (os : List SO) : G8_5 K N nl m5 [x6, x8, x18, x19, x20] os = GB8_5 K N nl m5 x6 x8 x18 x19 x20 os := by kernel_rfl
theorem X8_s (K : Nat → List SV → List SO → Out) (N nl : Nat) (x0 x1 x2 : SV) (os : List SO) : X8 K N nl x0 x1 x2 os = B8 K N nl x0 x1 x2 os := by kernel_rfl
theorem X9_s (K : Nat → List SV → List SO → Out) (N nl : Nat) (x0 x1 : SV) (os : List SO) : X9 K N nl x0 x1 os = B9 K N nl x0 x1 os := by kernel_rfl
theorem E9 (n : Nat) (x0 x1 : SV) (os : List SO) : callF prg (n + 1) 9 [x0, x1] os = X9 (callF prg n) (n + 1) os.length x0 x1 os := by kernel_rfl
theorem U9 {Q : SV → List SO → Prop} {x0 x1 : SV} {os : List SO} {nl : Nat} (hnl : os.length = nl) (h : Ev (fun n => B9 (callF prg n) (n + 1) nl x0 x1 os) Q) : Ev (fun n => callF prg n 9 [x0, x1] os) Q := by subst hnl; exact ev_fun (fun n => (E9 n _ _ _).trans (X9_s _ _ _ _ _ _)) h
theorem X10_s (K : Nat → List SV → List SO → Out) (N nl : Nat) (x0 x1 : SV) (os : List SO) : X10 K N nl x0 x1 os = B10 K N nl x0 x1 os := by kernel_rfl
theorem L12_4_s (K : Nat → List SV → List SO → Out) (N nl : Nat) (m4 : Nat) (x2 x3 x5 : SV) (os : List SO) : L12_4 K N nl (m4 + 1) x2 x3 x5 os = LB12_4 K N nl m4 x2 x3 x5 os := by kernel_rfl
theorem UL12_4 {nl c : Nat} {Q : SV → List SO → Prop} {x2 x3 x5 : SV} {os : List SO} (h : Ev (fun n => LB12_4 (callF prg n) (n + 1) nl (n + 1 - (c + 1)) x2 x3 x5 os) Q) : Ev (fun n => L12_4 (callF prg n) (n + 1) nl (n + 1 - c) x2 x3 x5 os) Q := ev_loop (L := fun n m => L12_4 (callF prg n) (n + 1) nl m x2 x3 x5 os) (fun n m => L12_4_s _ _ _ _ _ _ _ _) h
theorem L12_9_s (K : Nat → List SV → List SO → Out) (N nl : Nat) (m9 : Nat) (x2 x3 x6 : SV) (os : List SO) : L12_9 K N nl (m9 + 1) x2 x3 x6 os = LB12_9 K N nl m9 x2 x3 x6 os := by kernel_rfl
theorem UL12_9 {nl c : Nat} {Q : SV → List SO → Prop} {x2 x3 x6 : SV} {os : List SO} (h : Ev (fun n => LB12_9 (callF prg n) (n + 1) nl (n + 1 - (c + 1)) x2 x3 x6 os) Q) : Ev (fun n => L12_9 (callF prg n) (n + 1) nl (n + 1 - c) x2 x3 x6 os) Q := ev_loop (L := fun n m => L12_9 (callF prg n) (n + 1) nl m x2 x3 x6 os) (fun n m => L12_9_s _ _ _ _ _ _ _ _) h
theorem X12_s (K : Nat → List SV → List SO → Out) (N nl : Nat) (x0 x1 : SV) (os : List SO) : X12 K N nl x0 x1 os = B12 K N nl x0 x1 os := by kernel_rfl
theorem E12 (n : Nat) (x0 x1 : SV) (os : List SO) : callF prg (n + 1) 12 [x0, x1] os = X12 (callF prg n) (n + 1) os.length x0 x1 os := by kernel_rfl
theorem U12 {Q : SV → List SO → Prop} {x0 x1 : SV} {os : List SO} {nl : Nat} (hnl : os.length = nl) (h : Ev (fun n => B12 (callF prg n) (n + 1) nl x0 x1 os) Q) : Ev (fun n => callF prg n 12 [x0, x1] os) Q := by subst hnl; exact ev_fun (fun n => (E12 n _ _ _).trans (X12_s _ _ _ _ _ _)) h
theorem L13_2_s (K : Nat → List SV → List SO → Out) (N nl : Nat) (m2 : Nat) (x1 x6 x7 x8 : SV) (os : List SO) : L13_2 K N nl (m2 + 1) x1 x6 x7 x8 os = gcB nl [x1, x6, x7, x8] os fun xs os => G13_2 K N nl m2 xs os := by kernel_rfl
theorem UL13_2 {nl c : Nat} {Q : SV → List SO → Prop} {x1 x6 x7 x8 : SV} {os : List SO} (h : Ev (fun n => gcB nl [x1, x6, x7, x8] os fun xs os => G13_2 (callF prg n) (n + 1) nl (n + 1 - (c + 1)) xs os) Q) : Ev (fun n => L13_2 (callF prg n) (n + 1) nl (n + 1 - c) x1 x6 x7 x8 os) Q := ev_loop (L := fun n m => L13_2 (callF prg n) (n + 1) nl m x1 x6 x7 x8 os) (fun n m => L13_2_s _ _ _ _ _ _ _ _ _) h
theorem VL13_2 {nl : Nat} {Q : SV → List SO → Prop} {x1 x6 x7 x8 : SV} {os : List SO} (h : Ev (fun n => gcB nl [x1, x6, x7, x8] os fun xs os => G13_2 (callF prg n) (n + 1) nl (n + 1 - 1) xs os) Q) : Ev (fun n => L13_2 (callF prg n) (n + 1) nl (n + 1) x1 x6 x7 x8 os) Q := UL13_2 (c := 0) h
theorem G13_2_s (K : Nat → List SV → List SO → Out) (N nl : Nat) (m2 : Nat) (x1 x6 x7 x8 : SV) (os : List SO) : G13_2 K N nl m2 [x1, x6, x7, x8] os = GB13_2 K N nl m2 x1 x6 x7 x8 os := by kernel_rfl
theorem UG13_2 {nl : Nat} {Q : SV → List SO → Prop} (m2 : Nat → Nat) {x1 x6 x7 x8 : SV} {os : List SO} (h : Ev (fun n => GB13_2 (callF prg n) (n + 1) nl (m2 n) x1 x6 x7 x8 os) Q) : Ev (fun n => G13_2 (callF prg n) (n + 1) nl (m2 n) [x1, x6, x7, x8] os) Q := ev_eq (fun n => G13_2_s _ _ _ _ _ _ _ _ _) h
theorem X13_s (K : Nat → List SV → List SO → Out) (N nl : Nat) (x0 : SV) (os : List SO) : X13 K N nl x0 os = B13 K N nl x0 os := by kernel_rfl
theorem E13 (n : Nat) (x0 : SV) (os : List SO) : callF prg (n + 1) 13 [x0] os = X13 (callF prg n) (n + 1) os.length x0 os := by kernel_rfl
theorem U13 {Q : SV → List SO → Prop} {x0 : SV} {os : List SO} {nl : Nat} (hnl : os.length = nl) (h : Ev (fun n => B13 (callF prg n) (n + 1) nl x0 os) Q) : Ev (fun n => callF prg n 13 [x0] os) Q := by subst hnl; exact ev_fun (fun n => (E13 n _ _).trans (X13_s _ _ _ _ _)) h
theorem L18_3_s (K : Nat → List SV → List SO → Out) (N nl : Nat) (m3 : Nat) (x0 x3 x4 : SV) (os : List SO) : L18_3 K N nl (m3 + 1) x0 x3 x4 os = gcB nl [x0, x3, x4] os fun xs os => G18_3 K N nl m3 xs os := by kernel_rfl
theorem UL18_3 {nl c : Nat} {Q : SV → List SO → Prop} {x0 x3 x4 : SV} {os : List SO} (h : Ev (fun n => gcB nl [x0, x3, x4] os fun xs os => G18_3 (callF prg n) (n + 1) nl (n + 1 - (c + 1)) xs os) Q) : Ev (fun n => L18_3 (callF prg n) (n + 1) nl (n + 1 - c) x0 x3 x4 os) Q := ev_loop (L := fun n m => L18_3 (callF prg n) (n + 1) nl m x0 x3 x4 os) (fun n m => L18_3_s _ _ _ _ _ _ _ _) h
theorem VL18_3 {nl : Nat} {Q : SV → List SO → Prop} {x0 x3 x4 : SV} {os : List SO} (h : Ev (fun n => gcB nl [x0, x3, x4] os fun xs os => G18_3 (callF prg n) (n + 1) nl (n + 1 - 1) xs os) Q) : Ev (fun n => L18_3 (callF prg n) (n + 1) nl (n + 1) x0 x3 x4 os) Q := UL18_3 (c := 0) h
theorem G18_3_s (K : Nat → List SV → List SO → Out) (N nl : Nat) (m3 : Nat) (x0 x3 x4 : SV) (os : List SO) : G18_3 K N nl m3 [x0, x3, x4] os = GB18_3 K N nl m3 x0 x3 x4 os := by kernel_rfl
theorem UG18_3 {nl : Nat} {Q : SV → List SO → Prop} (m3 : Nat → Nat) {x0 x3 x4 : SV} {os : List SO} (h : Ev (fun n => GB18_3 (callF prg n) (n + 1) nl (m3 n) x0 x3 x4 os) Q) : Ev (fun n => G18_3 (callF prg n) (n + 1) nl (m3 n) [x0, x3, x4] os) Q := ev_eq (fun n => G18_3_s _ _ _ _ _ _ _ _) h
theorem X18_s (K : Nat → List SV → List SO → Out) (N nl : Nat) (x0 : SV) (os : List SO) : X18 K N nl x0 os = B18 K N nl x0 os := by kernel_rfl
theorem E18 (n : Nat) (x0 : SV) (os : List SO) : callF prg (n + 1) 18 [x0] os = X18 (callF prg n) (n + 1) os.length x0 os := by kernel_rfl
theorem U18 {Q : SV → List SO → Prop} {x0 : SV} {os : List SO} {nl : Nat} (hnl : os.length = nl) (h : Ev (fun n => B18 (callF prg n) (n + 1) nl x0 os) Q) : Ev (fun n => callF prg n 18 [x0] os) Q := by subst hnl; exact ev_fun (fun n => (E18 n _ _).trans (X18_s _ _ _ _ _)) h
theorem L24_2_s (K : Nat → List SV → List SO → Out) (N nl : Nat) (m2 : Nat) (x0 x1 x5 : SV) (os : List SO) : L24_2 K N nl (m2 + 1) x0 x1 x5 os = LB24_2 K N nl m2 x0 x1 x5 os := by kernel_rfl
theorem UL24_2 {nl c : Nat} {Q : SV → List SO → Prop} {x0 x1 x5 : SV} {os : List SO} (h : Ev (fun n => LB24_2 (callF prg n) (n + 1) nl (n + 1 - (c + 1)) x0 x1 x5 os) Q) : Ev (fun n => L24_2 (callF prg n) (n + 1) nl (n + 1 - c) x0 x1 x5 os) Q := ev_loop (L := fun n m => L24_2 (callF prg n) (n + 1) nl m x0 x1 x5 os) (fun n m => L24_2_s _ _ _ _ _ _ _ _) h
theorem VL24_2 {nl : Nat} {Q : SV → List SO → Prop} {x0 x1 x5 : SV} {os : List SO} (h : Ev (fun n => LB24_2 (callF prg n) (n + 1) nl (n + 1 - 1) x0 x1 x5 os) Q) : Ev (fun n => L24_2 (callF prg n) (n + 1) nl (n + 1) x0 x1 x5 os) Q := UL24_2 (c := 0) h
theorem X24_s (K : Nat → List SV → List SO → Out) (N nl : Nat) (x0 x1 : SV) (os : List SO) : X24 K N nl x0 x1 os = B24 K N nl x0 x1 os := by kernel_rfl
theorem E24 (n : Nat) (x0 x1 : SV) (os : List SO) : callF prg (n + 1) 24 [x0, x1] os = X24 (callF prg n) (n + 1) os.length x0 x1 os := by kernel_rfl
theorem U24 {Q : SV → List SO → Prop} {x0 x1 : SV} {os : List SO} {nl : Nat} (hnl : os.length = nl) (h : Ev (fun n => B24 (callF prg n) (n + 1) nl x0 x1 os) Q) : Ev (fun n => callF prg n 24 [x0, x1] os) Q := by subst hnl; exact ev_fun (fun n => (E24 n _ _ _).trans (X24_s _ _ _ _ _ _)) h
theorem J27_3_s (K : Nat → List SV → List SO → Out) (N nl : Nat) (x0 : SV) (os : List SO) : J27_3 K N nl x0 os = JB27_3 K N nl x0 os := by kernel_rfl
theorem UJ27_3 {nl : Nat} {Q : SV → List SO → Prop} {x0 : SV} {os : List SO} (h : Ev (fun n => JB27_3 (callF prg n) (n + 1) nl x0 os) Q) : Ev (fun n => J27_3 (callF prg n) (n + 1) nl x0 os) Q := ev_eq (fun n => J27_3_s _ _ _ _ _) h
theorem X27_s (K : Nat → List SV → List SO → Out) (N nl : Nat) (x0 : SV) (os : List SO) : X27 K N nl x0 os = B27 K N nl x0 os := by kernel_rfl
theorem E27 (n : Nat) (x0 : SV) (os : List SO) : callF prg (n + 1) 27 [x0] os = X27 (callF prg n) (n + 1) os.length x0 os := by kernel_rfl
theorem U27 {Q : SV → List SO → Prop} {x0 : SV} {os : List SO} {nl : Nat} (hnl : os.length = nl) (h : Ev (fun n => B27 (callF prg n) (n + 1) nl x0 os) Q) : Ev (fun n => callF prg n 27 [x0] os) Q := by subst hnl; exact ev_fun (fun n => (E27 n _ _).trans (X27_s _ _ _ _ _)) h
theorem X28_s (K : Nat → List SV → List SO → Out) (N nl : Nat) (x0 x1 : SV) (os : List SO) : X28 K N nl x0 x1 os = B28 K N nl x0 x1 os := by kernel_rfl
theorem E28 (n : Nat) (x0 x1 : SV) (os : List SO) : callF prg (n + 1) 28 [x0, x1] os = X28 (callF prg n) (n + 1) os.length x0 x1 os := by kernel_rfl
theorem U28 {Q : SV → List SO → Prop} {x0 x1 : SV} {os : List SO} {nl : Nat} (hnl : os.length = nl) (h : Ev (fun n => B28 (callF prg n) (n + 1) nl x0 x1 os) Q) : Ev (fun n => callF prg n 28 [x0, x1] os) Q := by subst hnl; exact ev_fun (fun n => (E28 n _ _ _).trans (X28_s _ _ _ _ _ _)) h
theorem J29_8_s (K : Nat → List SV → List SO → Out) (N nl : Nat) (x3 : SV) (os : List SO) : J29_8 K N nl x3 os = JB29_8 K N nl x3 os := by kernel_rfl
theorem UJ29_8 {nl : Nat} {Q : SV → List SO → Prop} {x3 : SV} {os : List SO} (h : Ev (fun n => JB29_8 (callF prg n) (n + 1) nl x3 os) Q) : Ev (fun n => J29_8 (callF prg n) (n + 1) nl x3 os) Q := ev_eq (fun n => J29_8_s _ _ _ _ _) h
theorem X29_s (K : Nat → List SV → List SO → Out) (N nl : Nat) (x0 : SV) (os : List SO) : X29 K N nl x0 os = B29 K N nl x0 os := by kernel_rfl
theorem E29 (n : Nat) (x0 : SV) (os : List SO) : callF prg (n + 1) 29 [x0] os = X29 (callF prg n) (n + 1) os.length x0 os := by kernel_rfl
theorem U29 {Q : SV → List SO → Prop} {x0 : SV} {os : List SO} {nl : Nat} (hnl : os.length = nl) (h : Ev (fun n => B29 (callF prg n) (n + 1) nl x0 os) Q) : Ev (fun n => callF prg n 29 [x0] os) Q := by subst hnl; exact ev_fun (fun n => (E29 n _ _).trans (X29_s _ _ _ _ _)) h
theorem L30_2_s (K : Nat → List SV → List SO → Out) (N nl : Nat) (m2 : Nat) (x0 x3 : SV) (os : List SO) : L30_2 K N nl (m2 + 1) x0 x3 os = LB30_2 K N nl m2 x0 x3 os := by kernel_rfl
theorem UL30_2 {nl c : Nat} {Q : SV → List SO → Prop} {x0 x3 : SV} {os : List SO} (h : Ev (fun n => LB30_2 (callF prg n) (n + 1) nl (n + 1 - (c + 1)) x0 x3 os) Q) : Ev (fun n => L30_2 (callF prg n) (n + 1) nl (n + 1 - c) x0 x3 os) Q := ev_loop (L := fun n m => L30_2 (callF prg n) (n + 1) nl m x0 x3 os) (fun n m => L30_2_s _ _ _ _ _ _ _) h
theorem X30_s (K : Nat → List SV → List SO → Out) (N nl : Nat) (x0 : SV) (os : List SO) : X30 K N nl x0 os = B30 K N nl x0 os := by kernel_rfl
theorem E30 (n : Nat) (x0 : SV) (os : List SO) : callF prg (n + 1) 30 [x0] os = X30 (callF prg n) (n + 1) os.length x0 os := by kernel_rfl
theorem U30 {Q : SV → List SO → Prop} {x0 : SV} {os : List SO} {nl : Nat} (hnl : os.length = nl) (h : Ev (fun n => B30 (callF prg n) (n + 1) nl x0 os) Q) : Ev (fun n => callF prg n 30 [x0] os) Q := by subst hnl; exact ev_fun (fun n => (E30 n _ _).trans (X30_s _ _ _ _ _)) h
theorem L31_3_s (K : Nat → List SV → List SO → Out) (N nl : Nat) (m3 : Nat) (x0 x3 x4 : SV) (os : List SO) : L31_3 K N nl (m3 + 1) x0 x3 x4 os = LB31_3 K N nl m3 x0 x3 x4 os := by kernel_rfl
theorem UL31_3 {nl c : Nat} {Q : SV → List SO → Prop} {x0 x3 x4 : SV} {os : List SO} (h : Ev (fun n => LB31_3 (callF prg n) (n + 1) nl (n + 1 - (c + 1)) x0 x3 x4 os) Q) : Ev (fun n => L31_3 (callF prg n) (n + 1) nl (n + 1 - c) x0 x3 x4 os) Q := ev_loop (L := fun n m => L31_3 (callF prg n) (n + 1) nl m x0 x3 x4 os) (fun n m => L31_3_s _ _ _ _ _ _ _ _) h
theorem X31_s (K : Nat → List SV → List SO → Out) (N nl : Nat) (x0 : SV) (os : List SO) : X31 K N nl x0 os = B31 K N nl x0 os := by kernel_rfl
theorem E31 (n : Nat) (x0 : SV) (os : List SO) : callF prg (n + 1) 31 [x0] os = X31 (callF prg n) (n + 1) os.length x0 os := by kernel_rfl
theorem U31 {Q : SV → List SO → Prop} {x0 : SV} {os : List SO} {nl : Nat} (hnl : os.length = nl) (h : Ev (fun n => B31 (callF prg n) (n + 1) nl x0 os) Q) : Ev (fun n => callF prg n 31 [x0] os) Q := by subst hnl; exact ev_fun (fun n => (E31 n _ _).trans (X31_s _ _ _ _ _)) h
theorem L32_5_s (K : Nat → List SV → List SO → Out) (N nl : Nat) (m5 : Nat) (x1 x3 x4 : SV) (os : List SO) : L32_5 K N nl (m5 + 1) x1 x3 x4 os = LB32_5 K N nl m5 x1 x3 x4 os := by kernel_rfl
theorem UL32_5 {nl c : Nat} {Q : SV → List SO → Prop} {x1 x3 x4 : SV} {os : List SO} (h : Ev (fun n => LB32_5 (callF prg n) (n + 1) nl (n + 1 - (c + 1)) x1 x3 x4 os) Q) : Ev (fun n => L32_5 (callF prg n) (n + 1) nl (n + 1 - c) x1 x3 x4 os) Q := ev_loop (L := fun n m => L32_5 (callF prg n) (n + 1) nl m x1 x3 x4 os) (fun n m => L32_5_s _ _ _ _ _ _ _ _) h
theorem J32_6_s (K : Nat → List SV → List SO → Out) (N nl : Nat) (m5 : Nat) (x1 x3 x4 : SV) (os : List SO) : J32_6 K N nl m5 x1 x3 x4 os = JB32_6 K N nl m5 x1 x3 x4 os := by kernel_rfl
theorem UJ32_6 {nl : Nat} {Q : SV → List SO → Prop} {m5 : Nat → Nat} {x1 x3 x4 : SV} {os : List SO} (h : Ev (fun n => JB32_6 (callF prg n) (n + 1) nl (m5 n) x1 x3 x4 os) Q) : Ev (fun n => J32_6 (callF prg n) (n + 1) nl (m5 n) x1 x3 x4 os) Q := ev_eq (fun n => J32_6_s _ _ _ _ _ _ _ _) h
theorem L32_9_s (K : Nat → List SV → List SO → Out) (N nl : Nat) (m9 : Nat) (x1 x3 x5 : SV) (os : List SO) : L32_9 K N nl (m9 + 1) x1 x3 x5 os = LB32_9 K N nl m9 x1 x3 x5 os := by kernel_rfl
theorem UL32_9 {nl c : Nat} {Q : SV → List SO → Prop} {x1 x3 x5 : SV} {os : List SO} (h : Ev (fun n => LB32_9 (callF prg n) (n + 1) nl (n + 1 - (c + 1)) x1 x3 x5 os) Q) : Ev (fun n => L32_9 (callF prg n) (n + 1) nl (n + 1 - c) x1 x3 x5 os) Q := ev_loop (L := fun n m => L32_9 (callF prg n) (n + 1) nl m x1 x3 x5 os) (fun n m => L32_9_s _ _ _ _ _ _ _ _) h
theorem X32_s (K : Nat → List SV → List SO → Out) (N nl : Nat) (x0 : SV) (os : List SO) : X32 K N nl x0 os = B32 K N nl x0 os := by kernel_rfl
theorem E32 (n : Nat) (x0 : SV) (os : List SO) : callF prg (n + 1) 32 [x0] os = X32 (callF prg n) (n + 1) os.length x0 os := by kernel_rfl
theorem U32 {Q : SV → List SO → Prop} {x0 : SV} {os : List SO} {nl : Nat} (hnl : os.length = nl) (h : Ev (fun n => B32 (callF prg n) (n + 1) nl x0 os) Q) : Ev (fun n => callF prg n 32 [x0] os) Q := by subst hnl; exact ev_fun (fun n => (E32 n _ _).trans (X32_s _ _ _ _ _)) h
theorem L33_4_s (K : Nat → List SV → List SO → Out) (N nl : Nat) (m4 : Nat) (x1 x3 : SV) (os : List SO) : L33_4 K N nl (m4 + 1) x1 x3 os = gcB nl [x1, x3] os fun xs os => G33_4 K N nl m4 xs os := by kernel_rfl
theorem UL33_4 {nl c : Nat} {Q : SV → List SO → Prop} {x1 x3 : SV} {os : List SO} (h : Ev (fun n => gcB nl [x1, x3] os fun xs os => G33_4 (callF prg n) (n + 1) nl (n + 1 - (c + 1)) xs os) Q) : Ev (fun n => L33_4 (callF prg n) (n + 1) nl (n + 1 - c) x1 x3 os) Q := ev_loop (L := fun n m => L33_4 (callF prg n) (n + 1) nl m x1 x3 os) (fun n m => L33_4_s _ _ _ _ _ _ _) h
theorem VL33_4 {nl : Nat} {Q : SV → List SO → Prop} {x1 x3 : SV} {os : List SO} (h : Ev (fun n => gcB nl [x1, x3] os fun xs os => G33_4 (callF prg n) (n + 1) nl (n + 1 - 1) xs os) Q) : Ev (fun n => L33_4 (callF prg n) (n + 1) nl (n + 1) x1 x3 os) Q := UL33_4 (c := 0) h
theorem G33_4_s (K : Nat → List SV → List SO → Out) (N nl : Nat) (m4 : Nat) (x1 x3 : SV) (os : List SO) : G33_4 K N nl m4 [x1, x3] os = GB33_4 K N nl m4 x1 x3 os := by kernel_rfl
theorem UG33_4 {nl : Nat} {Q : SV → List SO → Prop} (m4 : Nat → Nat) {x1 x3 : SV} {os : List SO} (h : Ev (fun n => GB33_4 (callF prg n) (n + 1) nl (m4 n) x1 x3 os) Q) : Ev (fun n => G33_4 (callF prg n) (n + 1) nl (m4 n) [x1, x3] os) Q := ev_eq (fun n => G33_4_s _ _ _ _ _ _ _) h
theorem X33_s (K : Nat → List SV → List SO → Out) (N nl : Nat) (x0 : SV) (os : List SO) : X33 K N nl x0 os = B33 K N nl x0 os := by kernel_rfl
theorem E33 (n : Nat) (x0 : SV) (os : List SO) : callF prg (n + 1) 33 [x0] os = X33 (callF prg n) (n + 1) os.length x0 os := by kernel_rfl
theorem U33 {Q : SV → List SO → Prop} {x0 : SV} {os : List SO} {nl : Nat} (hnl : os.length = nl) (h : Ev (fun n => B33 (callF prg n) (n + 1) nl x0 os) Q) : Ev (fun n => callF prg n 33 [x0] os) Q := by subst hnl; exact ev_fun (fun n => (E33 n _ _).trans (X33_s _ _ _ _ _)) h
theorem L34_2_s (K : Nat → List SV → List SO → Out) (N nl : Nat) (m2 : Nat) (x0 x5 x6 x7 : SV) (os : List SO) : L34_2 K N nl (m2 + 1) x0 x5 x6 x7 os = gcB nl [x0, x5, x6, x7] os fun xs os => G34_2 K N nl m2 xs os := by kernel_rfl
theorem UL34_2 {nl c : Nat} {Q : SV → List SO → Prop} {x0 x5 x6 x7 : SV} {os : List SO} (h : Ev (fun n => gcB nl [x0, x5, x6, x7] os fun xs os => G34_2 (callF prg n) (n + 1) nl (n + 1 - (c + 1)) xs os) Q) : Ev (fun n => L34_2 (callF prg n) (n + 1) nl (n + 1 - c) x0 x5 x6 x7 os) Q := ev_loop (L := fun n m => L34_2 (callF prg n) (n + 1) nl m x0 x5 x6 x7 os) (fun n m => L34_2_s _ _ _ _ _ _ _ _ _) h
theorem VL34_2 {nl : Nat} {Q : SV → List SO → Prop} {x0 x5 x6 x7 : SV} {os : List SO} (h : Ev (fun n => gcB nl [x0, x5, x6, x7] os fun xs os => G34_2 (callF prg n) (n + 1) nl (n + 1 - 1) xs os) Q) : Ev (fun n => L34_2 (callF prg n) (n + 1) nl (n + 1) x0 x5 x6 x7 os) Q := UL34_2 (c := 0) h
theorem G34_2_s (K : Nat → List SV → List SO → Out) (N nl : Nat) (m2 : Nat) (x0 x5 x6 x7 : SV) (os : List SO) : G34_2 K N nl m2 [x0, x5, x6, x7] os = GB34_2 K N nl m2 x0 x5 x6 x7 os := by kernel_rfl
theorem UG34_2 {nl : Nat} {Q : SV → List SO → Prop} (m2 : Nat → Nat) {x0 x5 x6 x7 : SV} {os : List SO} (h : Ev (fun n => GB34_2 (callF prg n) (n + 1) nl (m2 n) x0 x5 x6 x7 os) Q) : Ev (fun n => G34_2 (callF prg n) (n + 1) nl (m2 n) [x0, x5, x6, x7] os) Q := ev_eq (fun n => G34_2_s _ _ _ _ _ _ _ _ _) h
theorem X34_s (K : Nat → List SV → List SO → Out) (N nl : Nat) (x0 : SV) (os : List SO) : X34 K N nl x0 os = B34 K N nl x0 os := by kernel_rfl
theorem E34 (n : Nat) (x0 : SV) (os : List SO) : callF prg (n + 1) 34 [x0] os = X34 (callF prg n) (n + 1) os.length x0 os := by kernel_rfl
theorem U34 {Q : SV → List SO → Prop} {x0 : SV} {os : List SO} {nl : Nat} (hnl : os.length = nl) (h : Ev (fun n => B34 (callF prg n) (n + 1) nl x0 os) Q) : Ev (fun n => callF prg n 34 [x0] os) Q := by subst hnl; exact ev_fun (fun n => (E34 n _ _).trans (X34_s _ _ _ _ _)) h
theorem X35_s (K : Nat → List SV → List SO → Out) (N nl : Nat) (x0 : SV) (os : List SO) : X35 K N nl x0 os = B35 K N nl x0 os := by kernel_rfl
theorem L36_4_s (K : Nat → List SV → List SO → Out) (N nl : Nat) (m4 : Nat) (x0 x1 x5 : SV) (os : List SO) : L36_4 K N nl (m4 + 1) x0 x1 x5 os = LB36_4 K N nl m4 x0 x1 x5 os := by kernel_rfl
theorem UL36_4 {nl c : Nat} {Q : SV → List SO → Prop} {x0 x1 x5 : SV} {os : List SO} (h : Ev (fun n => LB36_4 (callF prg n) (n + 1) nl (n + 1 - (c + 1)) x0 x1 x5 os) Q) : Ev (fun n => L36_4 (callF prg n) (n + 1) nl (n + 1 - c) x0 x1 x5 os) Q := ev_loop (L := fun n m => L36_4 (callF prg n) (n + 1) nl m x0 x1 x5 os) (fun n m => L36_4_s _ _ _ _ _ _ _ _) h
theorem X36_s (K : Nat → List SV → List SO → Out) (N nl : Nat) (x0 x1 : SV) (os : List SO) : X36 K N nl x0 x1 os = B36 K N nl x0 x1 os := by kernel_rfl
theorem E36 (n : Nat) (x0 x1 : SV) (os : List SO) : callF prg (n + 1) 36 [x0, x1] os = X36 (callF prg n) (n + 1) os.length x0 x1 os := by kernel_rfl
theorem U36 {Q : SV → List SO → Prop} {x0 x1 : SV} {os : List SO} {nl : Nat} (hnl : os.length = nl) (h : Ev (fun n => B36 (callF prg n) (n + 1) nl x0 x1 os) Q) : Ev (fun n => callF prg n 36 [x0, x1] os) Q := by subst hnl; exact ev_fun (fun n => (E36 n _ _ _).trans (X36_s _ _ _ _ _ _)) h
theorem L37_7_s (K : Nat → List SV → List SO → Out) (N nl : Nat) (m7 : Nat) (x0 x2 x5 x33 x34 x35 : SV) (os : List SO) : L37_7 K N nl (m7 + 1) x0 x2 x5 x33 x34 x35 os = gcB nl [x0, x2, x5, x33, x34, x35] os fun xs os => G37_7 K N nl m7 xs os := by kernel_rfl
theorem G37_7_s (K : Nat → List SV → List SO → Out) (N nl : Nat) (m7 : Nat) (x0 x2 x5 x33 x34 x35 : SV) (os : List SO) : G37_7 K N nl m7 [x0, x2, x5, x33, x34, x35] os = GB37_7 K N nl m7 x0 x2 x5 x33 x34 x35 os := by kernel_rfl
theorem J37_16_s (K : Nat → List SV → List SO → Out) (N nl : Nat) (m7 : Nat) (x0 x2 x5 x33 x34 x35 : SV) (os : List SO) : J37_16 K N nl m7 x0 x2 x5 x33 x34 x35 os = JB37_16 K N nl m7 x0 x2 x5 x33 x34 x35 os := by kernel_rfl
theorem X37_s (K : Nat → List SV → List SO → Out) (N nl : Nat) (x0 : SV) (os : List SO) : X37 K N nl x0 os = B37 K N nl x0 os := by kernel_rfl
theorem X38_s (K : Nat → List SV → List SO → Out) (N nl : Nat) (x0 x1 : SV) (os : List SO) : X38 K N nl x0 x1 os = B38 K N nl x0 x1 os := by kernel_rfl
theorem E38 (n : Nat) (x0 x1 : SV) (os : List SO) : callF prg (n + 1) 38 [x0, x1] os = X38 (callF prg n) (n + 1) os.length x0 x1 os := by kernel_rfl
theorem U38 {Q : SV → List SO → Prop} {x0 x1 : SV} {os : List SO} {nl : Nat} (hnl : os.length = nl) (h : Ev (fun n => B38 (callF prg n) (n + 1) nl x0 x1 os) Q) : Ev (fun n => callF prg n 38 [x0, x1] os) Q := by subst hnl; exact ev_fun (fun n => (E38 n _ _ _).trans (X38_s _ _ _ _ _ _)) h
theorem L39_4_s (K : Nat → List SV → List SO → Out) (N nl : Nat) (m4 : Nat) (x1 x30 x31 x32 : SV) (os : List SO) : L39_4 K N nl (m4 + 1) x1 x30 x31 x32 os = gcB nl [x1, x30, x31, x32] os fun xs os => G39_4 K N nl m4 xs os := by kernel_rfl
theorem UL39_4 {nl c : Nat} {Q : SV → List SO → Prop} {x1 x30 x31 x32 : SV} {os : List SO} (h : Ev (fun n => gcB nl [x1, x30, x31, x32] os fun xs os => G39_4 (callF prg n) (n + 1) nl (n + 1 - (c + 1)) xs os) Q) : Ev (fun n => L39_4 (callF prg n) (n + 1) nl (n + 1 - c) x1 x30 x31 x32 os) Q := ev_loop (L := fun n m => L39_4 (callF prg n) (n + 1) nl m x1 x30 x31 x32 os) (fun n m => L39_4_s _ _ _ _ _ _ _ _ _) h
theorem VL39_4 {nl : Nat} {Q : SV → List SO → Prop} {x1 x30 x31 x32 : SV} {os : List SO} (h : Ev (fun n => gcB nl [x1, x30, x31, x32] os fun xs os => G39_4 (callF prg n) (n + 1) nl (n + 1 - 1) xs os) Q) : Ev (fun n => L39_4 (callF prg n) (n + 1) nl (n + 1) x1 x30 x31 x32 os) Q := UL39_4 (c := 0) h
theorem G39_4_s (K : Nat → List SV → List SO → Out) (N nl : Nat) (m4 : Nat) (x1 x30 x31 x32 : SV) (os : List SO) : G39_4 K N nl m4 [x1, x30, x31, x32] os = GB39_4 K N nl m4 x1 x30 x31 x32 os := by kernel_rfl
theorem UG39_4 {nl : Nat} {Q : SV → List SO → Prop} (m4 : Nat → Nat) {x1 x30 x31 x32 : SV} {os : List SO} (h : Ev (fun n => GB39_4 (callF prg n) (n + 1) nl (m4 n) x1 x30 x31 x32 os) Q) : Ev (fun n => G39_4 (callF prg n) (n + 1) nl (m4 n) [x1, x30, x31, x32] os) Q := ev_eq (fun n => G39_4_s _ _ _ _ _ _ _ _ _) h
theorem L39_10_s (K : Nat → List SV → List SO → Out) (N nl : Nat) (m10 : Nat) (x1 x65 x66 x67 : SV) (os : List SO) : L39_10 K N nl (m10 + 1) x1 x65 x66 x67 os = gcB nl [x1, x65, x66, x67] os fun xs os => G39_10 K N nl m10 xs os := by kernel_rfl
theorem UL39_10 {nl c : Nat} {Q : SV → List SO → Prop} {x1 x65 x66 x67 : SV} {os : List SO} (h : Ev (fun n => gcB nl [x1, x65, x66, x67] os fun xs os => G39_10 (callF prg n) (n + 1) nl (n + 1 - (c + 1)) xs os) Q) : Ev (fun n => L39_10 (callF prg n) (n + 1) nl (n + 1 - c) x1 x65 x66 x67 os) Q := ev_loop (L := fun n m => L39_10 (callF prg n) (n + 1) nl m x1 x65 x66 x67 os) (fun n m => L39_10_s _ _ _ _ _ _ _ _ _) h
theorem VL39_10 {nl : Nat} {Q : SV → List SO → Prop} {x1 x65 x66 x67 : SV} {os : List SO} (h : Ev (fun n => gcB nl [x1, x65, x66, x67] os fun xs os => G39_10 (callF prg n) (n + 1) nl (n + 1 - 1) xs os) Q) : Ev (fun n => L39_10 (callF prg n) (n + 1) nl (n + 1) x1 x65 x66 x67 os) Q := UL39_10 (c := 0) h
theorem G39_10_s (K : Nat → List SV → List SO → Out) (N nl : Nat) (m10 : Nat) (x1 x65 x66 x67 : SV) (os : List SO) : G39_10 K N nl m10 [x1, x65, x66, x67] os = GB39_10 K N nl m10 x1 x65 x66 x67 os := by kernel_rfl
theorem UG39_10 {nl : Nat} {Q : SV → List SO → Prop} (m10 : Nat → Nat) {x1 x65 x66 x67 : SV} {os : List SO} (h : Ev (fun n => GB39_10 (callF prg n) (n + 1) nl (m10 n) x1 x65 x66 x67 os) Q) : Ev (fun n => G39_10 (callF prg n) (n + 1) nl (m10 n) [x1, x65, x66, x67] os) Q := ev_eq (fun n => G39_10_s _ _ _ _ _ _ _ _ _) h
theorem X39_s (K : Nat → List SV → List SO → Out) (N nl : Nat) (x0 : SV) (os : List SO) : X39 K N nl x0 os = B39 K N nl x0 os := by kernel_rfl
theorem E39 (n : Nat) (x0 : SV) (os : List SO) : callF prg (n + 1) 39 [x0] os = X39 (callF prg n) (n + 1) os.length x0 os := by kernel_rfl
theorem U39 {Q : SV → List SO → Prop} {x0 : SV} {os : List SO} {nl : Nat} (hnl : os.length = nl) (h : Ev (fun n => B39 (callF prg n) (n + 1) nl x0 os) Q) : Ev (fun n => callF prg n 39 [x0] os) Q := by subst hnl; exact ev_fun (fun n => (E39 n _ _).trans (X39_s _ _ _ _ _)) h
theorem X44_s (K : Nat → List SV → List SO → Out) (N nl : Nat) (x0 : SV) (os : List SO) : X44 K N nl x0 os = B44 K N nl x0 os := by kernel_rfl
theorem E44 (n : Nat) (x0 : SV) (os : List SO) : callF prg (n + 1) 44 [x0] os = X44 (callF prg n) (n + 1) os.length x0 os := by kernel_rfl
theorem U44 {Q : SV → List SO → Prop} {x0 : SV} {os : List SO} {nl : Nat} (hnl : os.length = nl) (h : Ev (fun n => B44 (callF prg n) (n + 1) nl x0 os) Q) : Ev (fun n => callF prg n 44 [x0] os) Q := by subst hnl; exact ev_fun (fun n => (E44 n _ _).trans (X44_s _ _ _ _ _)) h
theorem X45_s (K : Nat → List SV → List SO → Out) (N nl : Nat) (x0 : SV) (os : List SO) : X45 K N nl x0 os = B45 K N nl x0 os := by kernel_rfl
theorem E45 (n : Nat) (x0 : SV) (os : List SO) : callF prg (n + 1) 45 [x0] os = X45 (callF prg n) (n + 1) os.length x0 os := by kernel_rfl
theorem U45 {Q : SV → List SO → Prop} {x0 : SV} {os : List SO} {nl : Nat} (hnl : os.length = nl) (h : Ev (fun n => B45 (callF prg n) (n + 1) nl x0 os) Q) : Ev (fun n => callF prg n 45 [x0] os) Q := by subst hnl; exact ev_fun (fun n => (E45 n _ _).trans (X45_s _ _ _ _ _)) h
theorem X46_s (K : Nat → List SV → List SO → Out) (N nl : Nat) (x0 x1 x2 : SV) (os : List SO) : X46 K N nl x0 x1 x2 os = B46 K N nl x0 x1 x2 os := by kernel_rfl
theorem E46 (n : Nat) (x0 x1 x2 : SV) (os : List SO) : callF prg (n + 1) 46 [x0, x1, x2] os = X46 (callF prg n) (n + 1) os.length x0 x1 x2 os := by kernel_rfl
theorem U46 {Q : SV → List SO → Prop} {x0 x1 x2 : SV} {os : List SO} {nl : Nat} (hnl : os.length = nl) (h : Ev (fun n => B46 (callF prg n) (n + 1) nl x0 x1 x2 os) Q) : Ev (fun n => callF prg n 46 [x0, x1, x2] os) Q := by subst hnl; exact ev_fun (fun n => (E46 n _ _ _ _).trans (X46_s _ _ _ _ _ _ _)) h
theorem L52_2_s (K : Nat → List SV → List SO → Out) (N nl : Nat) (m2 : Nat) (x0 x1 x2 x7 : SV) (os : List SO) : L52_2 K N nl (m2 + 1) x0 x1 x2 x7 os = LB52_2 K N nl m2 x0 x1 x2 x7 os := by kernel_rfl
theorem UL52_2 {nl c : Nat} {Q : SV → List SO → Prop} {x0 x1 x2 x7 : SV} {os : List SO} (h : Ev (fun n => LB52_2 (callF prg n) (n + 1) nl (n + 1 - (c + 1)) x0 x1 x2 x7 os) Q) : Ev (fun n => L52_2 (callF prg n) (n + 1) nl (n + 1 - c) x0 x1 x2 x7 os) Q := ev_loop (L := fun n m => L52_2 (callF prg n) (n + 1) nl m x0 x1 x2 x7 os) (fun n m => L52_2_s _ _ _ _ _ _ _ _ _) h
theorem X52_s (K : Nat → List SV → List SO → Out) (N nl : Nat) (x0 x1 x2 : SV) (os : List SO) : X52 K N nl x0 x1 x2 os = B52 K N nl x0 x1 x2 os := by kernel_rfl
theorem E52 (n : Nat) (x0 x1 x2 : SV) (os : List SO) : callF prg (n + 1) 52 [x0, x1, x2] os = X52 (callF prg n) (n + 1) os.length x0 x1 x2 os := by kernel_rfl
theorem U52 {Q : SV → List SO → Prop} {x0 x1 x2 : SV} {os : List SO} {nl : Nat} (hnl : os.length = nl) (h : Ev (fun n => B52 (callF prg n) (n + 1) nl x0 x1 x2 os) Q) : Ev (fun n => callF prg n 52 [x0, x1, x2] os) Q := by subst hnl; exact ev_fun (fun n => (E52 n _ _ _ _).trans (X52_s _ _ _ _ _ _ _)) h
theorem X55_s (K : Nat → List SV → List SO → Out) (N nl : Nat) (x0 : SV) (os : List SO) : X55 K N nl x0 os = B55 K N nl x0 os := by kernel_rfl
theorem E55 (n : Nat) (x0 : SV) (os : List SO) : callF prg (n + 1) 55 [x0] os = X55 (callF prg n) (n + 1) os.length x0 os := by kernel_rfl
theorem U55 {Q : SV → List SO → Prop} {x0 : SV} {os : List SO} {nl : Nat} (hnl : os.length = nl) (h : Ev (fun n => B55 (callF prg n) (n + 1) nl x0 os) Q) : Ev (fun n => callF prg n 55 [x0] os) Q := by subst hnl; exact ev_fun (fun n => (E55 n _ _).trans (X55_s _ _ _ _ _)) h
theorem L65_2_s (K : Nat → List SV → List SO → Out) (N nl : Nat) (m2 : Nat) (x0 x1 x5 : SV) (os : List SO) : L65_2 K N nl (m2 + 1) x0 x1 x5 os = LB65_2 K N nl m2 x0 x1 x5 os := by kernel_rfl
theorem UL65_2 {nl c : Nat} {Q : SV → List SO → Prop} {x0 x1 x5 : SV} {os : List SO} (h : Ev (fun n => LB65_2 (callF prg n) (n + 1) nl (n + 1 - (c + 1)) x0 x1 x5 os) Q) : Ev (fun n => L65_2 (callF prg n) (n + 1) nl (n + 1 - c) x0 x1 x5 os) Q := ev_loop (L := fun n m => L65_2 (callF prg n) (n + 1) nl m x0 x1 x5 os) (fun n m => L65_2_s _ _ _ _ _ _ _ _) h
theorem VL65_2 {nl : Nat} {Q : SV → List SO → Prop} {x0 x1 x5 : SV} {os : List SO} (h : Ev (fun n => LB65_2 (callF prg n) (n + 1) nl (n + 1 - 1) x0 x1 x5 os) Q) : Ev (fun n => L65_2 (callF prg n) (n + 1) nl (n + 1) x0 x1 x5 os) Q := UL65_2 (c := 0) h
theorem X65_s (K : Nat → List SV → List SO → Out) (N nl : Nat) (x0 x1 : SV) (os : List SO) : X65 K N nl x0 x1 os = B65 K N nl x0 x1 os := by kernel_rfl
theorem E65 (n : Nat) (x0 x1 : SV) (os : List SO) : callF prg (n + 1) 65 [x0, x1] os = X65 (callF prg n) (n + 1) os.length x0 x1 os := by kernel_rfl
theorem U65 {Q : SV → List SO → Prop} {x0 x1 : SV} {os : List SO} {nl : Nat} (hnl : os.length = nl) (h : Ev (fun n => B65 (callF prg n) (n + 1) nl x0 x1 os) Q) : Ev (fun n => callF prg n 65 [x0, x1] os) Q := by subst hnl; exact ev_fun (fun n => (E65 n _ _ _).trans (X65_s _ _ _ _ _ _)) h
theorem L66_2_s (K : Nat → List SV → List SO → Out) (N nl : Nat) (m2 : Nat) (x0 x1 x5 : SV) (os : List SO) : L66_2 K N nl (m2 + 1) x0 x1 x5 os = LB66_2 K N nl m2 x0 x1 x5 os := by kernel_rfl
theorem UL66_2 {nl c : Nat} {Q : SV → List SO → Prop} {x0 x1 x5 : SV} {os : List SO} (h : Ev (fun n => LB66_2 (callF prg n) (n + 1) nl (n + 1 - (c + 1)) x0 x1 x5 os) Q) : Ev (fun n => L66_2 (callF prg n) (n + 1) nl (n + 1 - c) x0 x1 x5 os) Q := ev_loop (L := fun n m => L66_2 (callF prg n) (n + 1) nl m x0 x1 x5 os) (fun n m => L66_2_s _ _ _ _ _ _ _ _) h
theorem VL66_2 {nl : Nat} {Q : SV → List SO → Prop} {x0 x1 x5 : SV} {os : List SO} (h : Ev (fun n => LB66_2 (callF prg n) (n + 1) nl (n + 1 - 1) x0 x1 x5 os) Q) : Ev (fun n => L66_2 (callF prg n) (n + 1) nl (n + 1) x0 x1 x5 os) Q := UL66_2 (c := 0) h
theorem X66_s (K : Nat → List SV → List SO → Out) (N nl : Nat) (x0 x1 : SV) (os : List SO) : X66 K N nl x0 x1 os = B66 K N nl x0 x1 os := by kernel_rfl
theorem E66 (n : Nat) (x0 x1 : SV) (os : List SO) : callF prg (n + 1) 66 [x0, x1] os = X66 (callF prg n) (n + 1) os.length x0 x1 os := by kernel_rfl
theorem U66 {Q : SV → List SO → Prop} {x0 x1 : SV} {os : List SO} {nl : Nat} (hnl : os.length = nl) (h : Ev (fun n => B66 (callF prg n) (n + 1) nl x0 x1 os) Q) : Ev (fun n => callF prg n 66 [x0, x1] os) Q := by subst hnl; exact ev_fun (fun n => (E66 n _ _ _).trans (X66_s _ _ _ _ _ _)) h
theorem L67_3_s (K : Nat → List SV → List SO → Out) (N nl : Nat) (m3 : Nat) (x0 x3 x4 : SV) (os : List SO) : L67_3 K N nl (m3 + 1) x0 x3 x4 os = gcB nl [x0, x3, x4] os fun xs os => G67_3 K N nl m3 xs os := by kernel_rfl
theorem UL67_3 {nl c : Nat} {Q : SV → List SO → Prop} {x0 x3 x4 : SV} {os : List SO} (h : Ev (fun n => gcB nl [x0, x3, x4] os fun xs os => G67_3 (callF prg n) (n + 1) nl (n + 1 - (c + 1)) xs os) Q) : Ev (fun n => L67_3 (callF prg n) (n + 1) nl (n + 1 - c) x0 x3 x4 os) Q := ev_loop (L := fun n m => L67_3 (callF prg n) (n + 1) nl m x0 x3 x4 os) (fun n m => L67_3_s _ _ _ _ _ _ _ _) h
theorem VL67_3 {nl : Nat} {Q : SV → List SO → Prop} {x0 x3 x4 : SV} {os : List SO} (h : Ev (fun n => gcB nl [x0, x3, x4] os fun xs os => G67_3 (callF prg n) (n + 1) nl (n + 1 - 1) xs os) Q) : Ev (fun n => L67_3 (callF prg n) (n + 1) nl (n + 1) x0 x3 x4 os) Q := UL67_3 (c := 0) h
theorem G67_3_s (K : Nat → List SV → List SO → Out) (N nl : Nat) (m3 : Nat) (x0 x3 x4 : SV) (os : List SO) : G67_3 K N nl m3 [x0, x3, x4] os = GB67_3 K N nl m3 x0 x3 x4 os := by kernel_rfl
theorem UG67_3 {nl : Nat} {Q : SV → List SO → Prop} (m3 : Nat → Nat) {x0 x3 x4 : SV} {os : List SO} (h : Ev (fun n => GB67_3 (callF prg n) (n + 1) nl (m3 n) x0 x3 x4 os) Q) : Ev (fun n => G67_3 (callF prg n) (n + 1) nl (m3 n) [x0, x3, x4] os) Q := ev_eq (fun n => G67_3_s _ _ _ _ _ _ _ _) h
theorem J67_4_s (K : Nat → List SV → List SO → Out) (N nl : Nat) (m3 : Nat) (x0 x3 x4 : SV) (os : List SO) : J67_4 K N nl m3 x0 x3 x4 os = JB67_4 K N nl m3 x0 x3 x4 os := by kernel_rfl
theorem UJ67_4 {nl : Nat} {Q : SV → List SO → Prop} {m3 : Nat → Nat} {x0 x3 x4 : SV} {os : List SO} (h : Ev (fun n => JB67_4 (callF prg n) (n + 1) nl (m3 n) x0 x3 x4 os) Q) : Ev (fun n => J67_4 (callF prg n) (n + 1) nl (m3 n) x0 x3 x4 os) Q := ev_eq (fun n => J67_4_s _ _ _ _ _ _ _ _) h
theorem X67_s (K : Nat → List SV → List SO → Out) (N nl : Nat) (x0 : SV) (os : List SO) : X67 K N nl x0 os = B67 K N nl x0 os := by kernel_rfl
theorem E67 (n : Nat) (x0 : SV) (os : List SO) : callF prg (n + 1) 67 [x0] os = X67 (callF prg n) (n + 1) os.length x0 os := by kernel_rfl
theorem U67 {Q : SV → List SO → Prop} {x0 : SV} {os : List SO} {nl : Nat} (hnl : os.length = nl) (h : Ev (fun n => B67 (callF prg n) (n + 1) nl x0 os) Q) : Ev (fun n => callF prg n 67 [x0] os) Q := by subst hnl; exact ev_fun (fun n => (E67 n _ _).trans (X67_s _ _ _ _ _)) h
theorem J68_11_s (K : Nat → List SV → List SO → Out) (N nl : Nat) (x2 x3 : SV) (os : List SO) : J68_11 K N nl x2 x3 os = JB68_11 K N nl x2 x3 os := by kernel_rfl
theorem UJ68_11 {nl : Nat} {Q : SV → List SO → Prop} {x2 x3 : SV} {os : List SO} (h : Ev (fun n => JB68_11 (callF prg n) (n + 1) nl x2 x3 os) Q) : Ev (fun n => J68_11 (callF prg n) (n + 1) nl x2 x3 os) Q := ev_eq (fun n => J68_11_s _ _ _ _ _ _) h
theorem X68_s (K : Nat → List SV → List SO → Out) (N nl : Nat) (x0 : SV) (os : List SO) : X68 K N nl x0 os = B68 K N nl x0 os := by kernel_rfl
theorem E68 (n : Nat) (x0 : SV) (os : List SO) : callF prg (n + 1) 68 [x0] os = X68 (callF prg n) (n + 1) os.length x0 os := by kernel_rfl
theorem U68 {Q : SV → List SO → Prop} {x0 : SV} {os : List SO} {nl : Nat} (hnl : os.length = nl) (h : Ev (fun n => B68 (callF prg n) (n + 1) nl x0 os) Q) : Ev (fun n => callF prg n 68 [x0] os) Q := by subst hnl; exact ev_fun (fun n => (E68 n _ _).trans (X68_s _ _ _ _ _)) h
theorem X69_s (K : Nat → List SV → List SO → Out) (N nl : Nat) (x0 : SV) (os : List SO) : X69 K N nl x0 os = B69 K N nl x0 os := by kernel_rfl
theorem E69 (n : Nat) (x0 : SV) (os : List SO) : callF prg (n + 1) 69 [x0] os = X69 (callF prg n) (n + 1) os.length x0 os := by kernel_rfl
theorem U69 {Q : SV → List SO → Prop} {x0 : SV} {os : List SO} {nl : Nat} (hnl : os.length = nl) (h : Ev (fun n => B69 (callF prg n) (n + 1) nl x0 os) Q) : Ev (fun n => callF prg n 69 [x0] os) Q := by subst hnl; exact ev_fun (fun n => (E69 n _ _).trans (X69_s _ _ _ _ _)) h
theorem X70_s (K : Nat → List SV → List SO → Out) (N nl : Nat) (x0 x1 x2 x3 : SV) (os : List SO) : X70 K N nl x0 x1 x2 x3 os = B70 K N nl x0 x1 x2 x3 os := by kernel_rfl
theorem E70 (n : Nat) (x0 x1 x2 x3 : SV) (os : List SO) : callF prg (n + 1) 70 [x0, x1, x2, x3] os = X70 (callF prg n) (n + 1) os.length x0 x1 x2 x3 os := by kernel_rfl
theorem U70 {Q : SV → List SO → Prop} {x0 x1 x2 x3 : SV} {os : List SO} {nl : Nat} (hnl : os.length = nl) (h : Ev (fun n => B70 (callF prg n) (n + 1) nl x0 x1 x2 x3 os) Q) : Ev (fun n => callF prg n 70 [x0, x1, x2, x3] os) Q := by subst hnl; exact ev_fun (fun n => (E70 n _ _ _ _ _).trans (X70_s _ _ _ _ _ _ _ _)) h
theorem X71_s (K : Nat → List SV → List SO → Out) (N nl : Nat) (x0 x1 : SV) (os : List SO) : X71 K N nl x0 x1 os = B71 K N nl x0 x1 os := by kernel_rfl
theorem E71 (n : Nat) (x0 x1 : SV) (os : List SO) : callF prg (n + 1) 71 [x0, x1] os = X71 (callF prg n) (n + 1) os.length x0 x1 os := by kernel_rfl
theorem U71 {Q : SV → List SO → Prop} {x0 x1 : SV} {os : List SO} {nl : Nat} (hnl : os.length = nl) (h : Ev (fun n => B71 (callF prg n) (n + 1) nl x0 x1 os) Q) : Ev (fun n => callF prg n 71 [x0, x1] os) Q := by subst hnl; exact ev_fun (fun n => (E71 n _ _ _).trans (X71_s _ _ _ _ _ _)) h
theorem X72_s (K : Nat → List SV → List SO → Out) (N nl : Nat) (x0 : SV) (os : List SO) : X72 K N nl x0 os = B72 K N nl x0 os := by kernel_rfl
theorem E72 (n : Nat) (x0 : SV) (os : List SO) : callF prg (n + 1) 72 [x0] os = X72 (callF prg n) (n + 1) os.length x0 os := by kernel_rfl
theorem U72 {Q : SV → List SO → Prop} {x0 : SV} {os : List SO} {nl : Nat} (hnl : os.length = nl) (h : Ev (fun n => B72 (callF prg n) (n + 1) nl x0 os) Q) : Ev (fun n => callF prg n 72 [x0] os) Q := by subst hnl; exact ev_fun (fun n => (E72 n _ _).trans (X72_s _ _ _ _ _)) h
theorem X73_s (K : Nat → List SV → List SO → Out) (N nl : Nat) (x0 x1 x2 : SV) (os : List SO) : X73 K N nl x0 x1 x2 os = B73 K N nl x0 x1 x2 os := by kernel_rfl
theorem E73 (n : Nat) (x0 x1 x2 : SV) (os : List SO) : callF prg (n + 1) 73 [x0, x1, x2] os = X73 (callF prg n) (n + 1) os.length x0 x1 x2 os := by kernel_rfl
theorem U73 {Q : SV → List SO → Prop} {x0 x1 x2 : SV} {os : List SO} {nl : Nat} (hnl : os.length = nl) (h : Ev (fun n => B73 (callF prg n) (n + 1) nl x0 x1 x2 os) Q) : Ev (fun n => callF prg n 73 [x0, x1, x2] os) Q := by subst hnl; exact ev_fun (fun n => (E73 n _ _ _ _).trans (X73_s _ _ _ _ _ _ _)) h
theorem X74_s (K : Nat → List SV → List SO → Out) (N nl : Nat) (x0 x1 : SV) (os : List SO) : X74 K N nl x0 x1 os = B74 K N nl x0 x1 os := by kernel_rfl
theorem E74 (n : Nat) (x0 x1 : SV) (os : List SO) : callF prg (n + 1) 74 [x0, x1] os = X74 (callF prg n) (n + 1) os.length x0 x1 os := by kernel_rfl
theorem U74 {Q : SV → List SO → Prop} {x0 x1 : SV} {os : List SO} {nl : Nat} (hnl : os.length = nl) (h : Ev (fun n => B74 (callF prg n) (n + 1) nl x0 x1 os) Q) : Ev (fun n => callF prg n 74 [x0, x1] os) Q := by subst hnl; exact ev_fun (fun n => (E74 n _ _ _).trans (X74_s _ _ _ _ _ _)) h
theorem L75_3_s (K : Nat → List SV → List SO → Out) (N nl : Nat) (m3 : Nat) (x3 x7 x8 x9 : SV) (os : List SO) : L75_3 K N nl (m3 + 1) x3 x7 x8 x9 os = LB75_3 K N nl m3 x3 x7 x8 x9 os := by kernel_rfl
theorem UL75_3 {nl c : Nat} {Q : SV → List SO → Prop} {x3 x7 x8 x9 : SV} {os : List SO} (h : Ev (fun n => LB75_3 (callF prg n) (n + 1) nl (n + 1 - (c + 1)) x3 x7 x8 x9 os) Q) : Ev (fun n => L75_3 (callF prg n) (n + 1) nl (n + 1 - c) x3 x7 x8 x9 os) Q := ev_loop (L := fun n m => L75_3 (callF prg n) (n + 1) nl m x3 x7 x8 x9 os) (fun n m => L75_3_s _ _ _ _ _ _ _ _ _) h
theorem X75_s (K : Nat → List SV → List SO → Out) (N nl : Nat) (x0 : SV) (os : List SO) : X75 K N nl x0 os = B75 K N nl x0 os := by kernel_rfl
theorem E75 (n : Nat) (x0 : SV) (os : List SO) : callF prg (n + 1) 75 [x0] os = X75 (callF prg n) (n + 1) os.length x0 os := by kernel_rfl
theorem U75 {Q : SV → List SO → Prop} {x0 : SV} {os : List SO} {nl : Nat} (hnl : os.length = nl) (h : Ev (fun n => B75 (callF prg n) (n + 1) nl x0 os) Q) : Ev (fun n => callF prg n 75 [x0] os) Q := by subst hnl; exact ev_fun (fun n => (E75 n _ _).trans (X75_s _ _ _ _ _)) h
theorem X76_s (K : Nat → List SV → List SO → Out) (N nl : Nat) (x0 x1 : SV) (os : List SO) : X76 K N nl x0 x1 os = B76 K N nl x0 x1 os := by kernel_rfl
theorem X77_s (K : Nat → List SV → List SO → Out) (N nl : Nat) (x0 : SV) (os : List SO) : X77 K N nl x0 os = B77 K N nl x0 os := by kernel_rfl
theorem X78_s (K : Nat → List SV → List SO → Out) (N nl : Nat) (x0 x1 : SV) (os : List SO) : X78 K N nl x0 x1 os = B78 K N nl x0 x1 os := by kernel_rfl
theorem L80_2_s (K : Nat → List SV → List SO → Out) (N nl : Nat) (m2 : Nat) (x0 x3 x7 x8 : SV) (os : List SO) : L80_2 K N nl (m2 + 1) x0 x3 x7 x8 os = LB80_2 K N nl m2 x0 x3 x7 x8 os := by kernel_rfl
theorem UL80_2 {nl c : Nat} {Q : SV → List SO → Prop} {x0 x3 x7 x8 : SV} {os : List SO} (h : Ev (fun n => LB80_2 (callF prg n) (n + 1) nl (n + 1 - (c + 1)) x0 x3 x7 x8 os) Q) : Ev (fun n => L80_2 (callF prg n) (n + 1) nl (n + 1 - c) x0 x3 x7 x8 os) Q := ev_loop (L := fun n m => L80_2 (callF prg n) (n + 1) nl m x0 x3 x7 x8 os) (fun n m => L80_2_s _ _ _ _ _ _ _ _ _) h
theorem X80_s (K : Nat → List SV → List SO → Out) (N nl : Nat) (x0 x1 : SV) (os : List SO) : X80 K N nl x0 x1 os = B80 K N nl x0 x1 os := by kernel_rfl
theorem E80 (n : Nat) (x0 x1 : SV) (os : List SO) : callF prg (n + 1) 80 [x0, x1] os = X80 (callF prg n) (n + 1) os.length x0 x1 os := by kernel_rfl
theorem U80 {Q : SV → List SO → Prop} {x0 x1 : SV} {os : List SO} {nl : Nat} (hnl : os.length = nl) (h : Ev (fun n => B80 (callF prg n) (n + 1) nl x0 x1 os) Q) : Ev (fun n => callF prg n 80 [x0, x1] os) Q := by subst hnl; exact ev_fun (fun n => (E80 n _ _ _).trans (X80_s _ _ _ _ _ _)) h
theorem L90_3_s (K : Nat → List SV → List SO → Out) (N nl : Nat) (m3 : Nat) (x0 x3 x4 : SV) (os : List SO) : L90_3 K N nl (m3 + 1) x0 x3 x4 os = LB90_3 K N nl m3 x0 x3 x4 os := by kernel_rfl
theorem UL90_3 {nl c : Nat} {Q : SV → List SO → Prop} {x0 x3 x4 : SV} {os : List SO} (h : Ev (fun n => LB90_3 (callF prg n) (n + 1) nl (n + 1 - (c + 1)) x0 x3 x4 os) Q) : Ev (fun n => L90_3 (callF prg n) (n + 1) nl (n + 1 - c) x0 x3 x4 os) Q := ev_loop (L := fun n m => L90_3 (callF prg n) (n + 1) nl m x0 x3 x4 os) (fun n m => L90_3_s _ _ _ _ _ _ _ _) h
theorem X90_s (K : Nat → List SV → List SO → Out) (N nl : Nat) (x0 : SV) (os : List SO) : X90 K N nl x0 os = B90 K N nl x0 os := by kernel_rfl
theorem E90 (n : Nat) (x0 : SV) (os : List SO) : callF prg (n + 1) 90 [x0] os = X90 (callF prg n) (n + 1) os.length x0 os := by kernel_rfl
theorem U90 {Q : SV → List SO → Prop} {x0 : SV} {os : List SO} {nl : Nat} (hnl : os.length = nl) (h : Ev (fun n => B90 (callF prg n) (n + 1) nl x0 os) Q) : Ev (fun n => callF prg n 90 [x0] os) Q := by subst hnl; exact ev_fun (fun n => (E90 n _ _).trans (X90_s _ _ _ _ _)) h
theorem L91_3_s (K : Nat → List SV → List SO → Out) (N nl : Nat) (m3 : Nat) (x0 x3 x4 : SV) (os : List SO) : L91_3 K N nl (m3 + 1) x0 x3 x4 os = LB91_3 K N nl m3 x0 x3 x4 os := by kernel_rfl
theorem UL91_3 {nl c : Nat} {Q : SV → List SO → Prop} {x0 x3 x4 : SV} {os : List SO} (h : Ev (fun n => LB91_3 (callF prg n) (n + 1) nl (n + 1 - (c + 1)) x0 x3 x4 os) Q) : Ev (fun n => L91_3 (callF prg n) (n + 1) nl (n + 1 - c) x0 x3 x4 os) Q := ev_loop (L := fun n m => L91_3 (callF prg n) (n + 1) nl m x0 x3 x4 os) (fun n m => L91_3_s _ _ _ _ _ _ _ _) h
theorem X91_s (K : Nat → List SV → List SO → Out) (N nl : Nat) (x0 : SV) (os : List SO) : X91 K N nl x0 os = B91 K N nl x0 os := by kernel_rfl
theorem E91 (n : Nat) (x0 : SV) (os : List SO) : callF prg (n + 1) 91 [x0] os = X91 (callF prg n) (n + 1) os.length x0 os := by kernel_rfl
theorem U91 {Q : SV → List SO → Prop} {x0 : SV} {os : List SO} {nl : Nat} (hnl : os.length = nl) (h : Ev (fun n => B91 (callF prg n) (n + 1) nl x0 os) Q) : Ev (fun n => callF prg n 91 [x0] os) Q := by subst hnl; exact ev_fun (fun n => (E91 n _ _).trans (X91_s _ _ _ _ _)) h
theorem L99_4_s (K : Nat → List SV → List SO → Out) (N nl : Nat) (m4 : Nat) (x0 x1 x6 x7 x8 x9 : SV) (os : List SO) : L99_4 K N nl (m4 + 1) x0 x1 x6 x7 x8 x9 os = gcB nl [x0, x1, x6, x7, x8, x9] os fun xs os => G99_4 K N nl m4 xs os := by kernel_rfl
theorem UL99_4 {nl c : Nat} {Q : SV → List SO → Prop} {x0 x1 x6 x7 x8 x9 : SV} {os : List SO} (h : Ev (fun n => gcB nl [x0, x1, x6, x7, x8, x9] os fun xs os => G99_4 (callF prg n) (n + 1) nl (n + 1 - (c + 1)) xs os) Q) : Ev (fun n => L99_4 (callF prg n) (n + 1) nl (n + 1 - c) x0 x1 x6 x7 x8 x9 os) Q := ev_loop (L := fun n m => L99_4 (callF prg n) (n + 1) nl m x0 x1 x6 x7 x8 x9 os) (fun n m => L99_4_s _ _ _ _ _ _ _ _ _ _ _) h
theorem VL99_4 {nl : Nat} {Q : SV → List SO → Prop} {x0 x1 x6 x7 x8 x9 : SV} {os : List SO} (h : Ev (fun n => gcB nl [x0, x1, x6, x7, x8, x9] os fun xs os => G99_4 (callF prg n) (n + 1) nl (n + 1 - 1) xs os) Q) : Ev (fun n => L99_4 (callF prg n) (n + 1) nl (n + 1) x0 x1 x6 x7 x8 x9 os) Q := UL99_4 (c := 0) h
theorem G99_4_s (K : Nat → List SV → List SO → Out) (N nl : Nat) (m4 : Nat) (x0 x1 x6 x7 x8 x9 : SV) (os : List SO) : G99_4 K N nl m4 [x0, x1, x6, x7, x8, x9] os = GB99_4 K N nl m4 x0 x1 x6 x7 x8 x9 os := by kernel_rfl
theorem UG99_4 {nl : Nat} {Q : SV → List SO → Prop} (m4 : Nat → Nat) {x0 x1 x6 x7 x8 x9 : SV} {os : List SO} (h : Ev (fun n => GB99_4 (callF prg n) (n + 1) nl (m4 n) x0 x1 x6 x7 x8 x9 os) Q) : Ev (fun n => G99_4 (callF prg n) (n + 1) nl (m4 n) [x0, x1, x6, x7, x8, x9] os) Q := ev_eq (fun n => G99_4_s _ _ _ _ _ _ _ _ _ _ _) h
theorem L99_9_s (K : Nat → List SV → List SO → Out) (N nl : Nat) (m9 : Nat) (x0 x1 x6 x7 x10 : SV) (os : List SO) : L99_9 K N nl (m9 + 1) x0 x1 x6 x7 x10 os = gcB nl [x0, x1, x6, x7, x10] os fun xs os => G99_9 K N nl m9 xs os := by kernel_rfl
theorem UL99_9 {nl c : Nat} {Q : SV → List SO → Prop} {x0 x1 x6 x7 x10 : SV} {os : List SO} (h : Ev (fun n => gcB nl [x0, x1, x6, x7, x10] os fun xs os => G99_9 (callF prg n) (n + 1) nl (n + 1 - (c + 1)) xs os) Q) : Ev (fun n => L99_9 (callF prg n) (n + 1) nl (n + 1 - c) x0 x1 x6 x7 x10 os) Q := ev_loop (L := fun n m => L99_9 (callF prg n) (n + 1) nl m x0 x1 x6 x7 x10 os) (fun n m => L99_9_s _ _ _ _ _ _ _ _ _ _) h
theorem VL99_9 {nl : Nat} {Q : SV → List SO → Prop} {x0 x1 x6 x7 x10 : SV} {os : List SO} (h : Ev (fun n => gcB nl [x0, x1, x6, x7, x10] os fun xs os => G99_9 (callF prg n) (n + 1) nl (n + 1 - 1) xs os) Q) : Ev (fun n => L99_9 (callF prg n) (n + 1) nl (n + 1) x0 x1 x6 x7 x10 os) Q := UL99_9 (c := 0) h
theorem G99_9_s (K : Nat → List SV → List SO → Out) (N nl : Nat) (m9 : Nat) (x0 x1 x6 x7 x10 : SV) (os : List SO) : G99_9 K N nl m9 [x0, x1, x6, x7, x10] os = GB99_9 K N nl m9 x0 x1 x6 x7 x10 os := by kernel_rfl
theorem UG99_9 {nl : Nat} {Q : SV → List SO → Prop} (m9 : Nat → Nat) {x0 x1 x6 x7 x10 : SV} {os : List SO} (h : Ev (fun n => GB99_9 (callF prg n) (n + 1) nl (m9 n) x0 x1 x6 x7 x10 os) Q) : Ev (fun n => G99_9 (callF prg n) (n + 1) nl (m9 n) [x0, x1, x6, x7, x10] os) Q := ev_eq (fun n => G99_9_s _ _ _ _ _ _ _ _ _ _) h
theorem J99_10_s (K : Nat → List SV → List SO → Out) (N nl : Nat) (m9 : Nat) (x0 x1 x6 x7 x10 : SV) (os : List SO) : J99_10 K N nl m9 x0 x1 x6 x7 x10 os = JB99_10 K N nl m9 x0 x1 x6 x7 x10 os := by kernel_rfl
theorem UJ99_10 {nl : Nat} {Q : SV → List SO → Prop} {m9 : Nat → Nat} {x0 x1 x6 x7 x10 : SV} {os : List SO} (h : Ev (fun n => JB99_10 (callF prg n) (n + 1) nl (m9 n) x0 x1 x6 x7 x10 os) Q) : Ev (fun n => J99_10 (callF prg n) (n + 1) nl (m9 n) x0 x1 x6 x7 x10 os) Q := ev_eq (fun n => J99_10_s _ _ _ _ _ _ _ _ _ _) h
theorem X99_s (K : Nat → List SV → List SO → Out) (N nl : Nat) (x0 x1 x2 : SV) (os : List SO) : X99 K N nl x0 x1 x2 os = B99 K N nl x0 x1 x2 os := by kernel_rfl
theorem E99 (n : Nat) (x0 x1 x2 : SV) (os : List SO) : callF prg (n + 1) 99 [x0, x1, x2] os = X99 (callF prg n) (n + 1) os.length x0 x1 x2 os := by kernel_rfl
theorem U99 {Q : SV → List SO → Prop} {x0 x1 x2 : SV} {os : List SO} {nl : Nat} (hnl : os.length = nl) (h : Ev (fun n => B99 (callF prg n) (n + 1) nl x0 x1 x2 os) Q) : Ev (fun n => callF prg n 99 [x0, x1, x2] os) Q := by subst hnl; exact ev_fun (fun n => (E99 n _ _ _ _).trans (X99_s _ _ _ _ _ _ _)) h
theorem L100_3_s (K : Nat → List SV → List SO → Out) (N nl : Nat) (m3 : Nat) (x0 x3 x5 x6 : SV) (os : List SO) : L100_3 K N nl (m3 + 1) x0 x3 x5 x6 os = gcB nl [x0, x3, x5, x6] os fun xs os => G100_3 K N nl m3 xs os := by kernel_rfl
theorem UL100_3 {nl c : Nat} {Q : SV → List SO → Prop} {x0 x3 x5 x6 : SV} {os : List SO} (h : Ev (fun n => gcB nl [x0, x3, x5, x6] os fun xs os => G100_3 (callF prg n) (n + 1) nl (n + 1 - (c + 1)) xs os) Q) : Ev (fun n => L100_3 (callF prg n) (n + 1) nl (n + 1 - c) x0 x3 x5 x6 os) Q := ev_loop (L := fun n m => L100_3 (callF prg n) (n + 1) nl m x0 x3 x5 x6 os) (fun n m => L100_3_s _ _ _ _ _ _ _ _ _) h
theorem VL100_3 {nl : Nat} {Q : SV → List SO → Prop} {x0 x3 x5 x6 : SV} {os : List SO} (h : Ev (fun n => gcB nl [x0, x3, x5, x6] os fun xs os => G100_3 (callF prg n) (n + 1) nl (n + 1 - 1) xs os) Q) : Ev (fun n => L100_3 (callF prg n) (n + 1) nl (n + 1) x0 x3 x5 x6 os) Q := UL100_3 (c := 0) h
theorem G100_3_s (K : Nat → List SV → List SO → Out) (N nl : Nat) (m3 : Nat) (x0 x3 x5 x6 : SV) (os : List SO) : G100_3 K N nl m3 [x0, x3, x5, x6] os = GB100_3 K N nl m3 x0 x3 x5 x6 os := by kernel_rfl
theorem UG100_3 {nl : Nat} {Q : SV → List SO → Prop} (m3 : Nat → Nat) {x0 x3 x5 x6 : SV} {os : List SO} (h : Ev (fun n => GB100_3 (callF prg n) (n + 1) nl (m3 n) x0 x3 x5 x6 os) Q) : Ev (fun n => G100_3 (callF prg n) (n + 1) nl (m3 n) [x0, x3, x5, x6] os) Q := ev_eq (fun n => G100_3_s _ _ _ _ _ _ _ _ _) h
theorem J100_4_s (K : Nat → List SV → List SO → Out) (N nl : Nat) (m3 : Nat) (x0 x3 x5 x6 : SV) (os : List SO) : J100_4 K N nl m3 x0 x3 x5 x6 os = JB100_4 K N nl m3 x0 x3 x5 x6 os := by kernel_rfl
theorem UJ100_4 {nl : Nat} {Q : SV → List SO → Prop} {m3 : Nat → Nat} {x0 x3 x5 x6 : SV} {os : List SO} (h : Ev (fun n => JB100_4 (callF prg n) (n + 1) nl (m3 n) x0 x3 x5 x6 os) Q) : Ev (fun n => J100_4 (callF prg n) (n + 1) nl (m3 n) x0 x3 x5 x6 os) Q := ev_eq (fun n => J100_4_s _ _ _ _ _ _ _ _ _) h
theorem L100_9_s (K : Nat → List SV → List SO → Out) (N nl : Nat) (m9 : Nat) (x0 x3 x5 x7 : SV) (os : List SO) : L100_9 K N nl (m9 + 1) x0 x3 x5 x7 os = gcB nl [x0, x3, x5, x7] os fun xs os => G100_9 K N nl m9 xs os := by kernel_rfl
theorem UL100_9 {nl c : Nat} {Q : SV → List SO → Prop} {x0 x3 x5 x7 : SV} {os : List SO} (h : Ev (fun n => gcB nl [x0, x3, x5, x7] os fun xs os => G100_9 (callF prg n) (n + 1) nl (n + 1 - (c + 1)) xs os) Q) : Ev (fun n => L100_9 (callF prg n) (n + 1) nl (n + 1 - c) x0 x3 x5 x7 os) Q := ev_loop (L := fun n m => L100_9 (callF prg n) (n + 1) nl m x0 x3 x5 x7 os) (fun n m => L100_9_s _ _ _ _ _ _ _ _ _) h
theorem VL100_9 {nl : Nat} {Q : SV → List SO → Prop} {x0 x3 x5 x7 : SV} {os : List SO} (h : Ev (fun n => gcB nl [x0, x3, x5, x7] os fun xs os => G100_9 (callF prg n) (n + 1) nl (n + 1 - 1) xs os) Q) : Ev (fun n => L100_9 (callF prg n) (n + 1) nl (n + 1) x0 x3 x5 x7 os) Q := UL100_9 (c := 0) h
theorem G100_9_s (K : Nat → List SV → List SO → Out) (N nl : Nat) (m9 : Nat) (x0 x3 x5 x7 : SV) (os : List SO) : G100_9 K N nl m9 [x0, x3, x5, x7] os = GB100_9 K N nl m9 x0 x3 x5 x7 os := by kernel_rfl
theorem UG100_9 {nl : Nat} {Q : SV → List SO → Prop} (m9 : Nat → Nat) {x0 x3 x5 x7 : SV} {os : List SO} (h : Ev (fun n => GB100_9 (callF prg n) (n + 1) nl (m9 n) x0 x3 x5 x7 os) Q) : Ev (fun n => G100_9 (callF prg n) (n + 1) nl (m9 n) [x0, x3, x5, x7] os) Q := ev_eq (fun n => G100_9_s _ _ _ _ _ _ _ _ _) h
theorem J100_10_s (K : Nat → List SV → List SO → Out) (N nl : Nat) (m9 : Nat) (x0 x3 x5 x7 : SV) (os : List SO) : J100_10 K N nl m9 x0 x3 x5 x7 os = JB100_10 K N nl m9 x0 x3 x5 x7 os := by kernel_rfl
theorem UJ100_10 {nl : Nat} {Q : SV → List SO → Prop} {m9 : Nat → Nat} {x0 x3 x5 x7 : SV} {os : List SO} (h : Ev (fun n => JB100_10 (callF prg n) (n + 1) nl (m9 n) x0 x3 x5 x7 os) Q) : Ev (fun n => J100_10 (callF prg n) (n + 1) nl (m9 n) x0 x3 x5 x7 os) Q := ev_eq (fun n => J100_10_s _ _ _ _ _ _ _ _ _) h
theorem X100_s (K : Nat → List SV → List SO → Out) (N nl : Nat) (x0 x1 : SV) (os : List SO) : X100 K N nl x0 x1 os = B100 K N nl x0 x1 os := by kernel_rfl
end Go.Proofs.YtebaiioejagfoaaGreatDoor
