/- The evaluator S: the functions of this seat, read chunk by chunk (2). -/
import Derived.Test.YtgeolifkmiglgaaSb1
import Derived.Test.YtgeolifkmiglgaaProg
import Derived.KernelRfl
namespace Go.Proofs.Ytgeolifkmiglgaa
open Go
set_option linter.unusedVariables false
set_option maxRecDepth 100000
noncomputable def GB99_9 (K : Nat → List SV → List SO → Out) (N nl : Nat) (m9 : Nat) (x0 x1 x8 x10 x11 : SV) (os : List SO) : Out :=
 bd (ret1 (binS tab .leq 3 x11 (SV.v (.int .i64 4))) os) fun v14 o14 =>
 condS v14 (bd (ret1 (indexAddrS tab o14 126 x8 x11) o14) fun v15 o15 =>
 bd (ret1 (loadS tab o15 4 v15) o15) fun v16 o16 =>
 bd (ret1 (unS .not v16) o16) fun v17 o17 =>
 bd (gd v17 false (some (x10, o17)) o17) fun v18 o18 =>
 bd (gd v17 false (some (x11, o18)) o18) fun v19 o19 =>
 bd (gd v17 false (callS ⟨tab, ownF, K⟩ o19 116 [v18, v19]) o19) fun v20 o20 =>
 bd (ret1 (pickS v17 (SV.v (.bool true)) v20) o20) fun v21 o21 =>
 condS v21 (J99_10 K N nl m9 x0 x1 x8 x10 x11 o21)
 (bd (callS ⟨tab, ownF, K⟩ o21 117 [x0, x1, x11]) fun v22 o22 =>
 bd (ret1 (extractS v22 0) o22) fun v23 o23 =>
 bd (ret1 (extractS v22 1) o23) fun v24 o24 =>
 bd (allocS tab o24 29) fun v25 o25 =>
 bd (storeO tab o25 29 v25 (some v23)) fun v26 o26 =>
 bd (ret1 (unS .not v24) o26) fun v27 o27 =>
 condS v27 (bd (buildSliceS tab o27 23 0 []) fun v28 o28 =>
 retV tab nl o28 (resC1 (some v28) (resC1 (some (SV.v (.bool false))) (some []))))
 (bd (ret1 (loadS tab o27 29 v25) o27) fun v29 o29 =>
 bd (callS ⟨tab, ownF, K⟩ o29 102 [x10, v29]) fun v30 o30 =>
 L99_17 K N nl m9 N x0 x1 x8 v30 v25 (SV.v (.int .i64 0)) o30)))
 (bd (callS ⟨tab, ownF, K⟩ o14 22 [x10]) fun v31 o31 =>
 bd (ret1 (unS .not v31) o31) fun v32 o32 =>
 condS v32 (bd (buildSliceS tab o32 23 0 []) fun v33 o33 =>
 retV tab nl o33 (resC1 (some v33) (resC1 (some (SV.v (.bool false))) (some []))))
 (retV tab nl o32 (resC1 (some x10) (resC1 (some (SV.v (.bool true))) (some [])))))
noncomputable def JB99_10 (K : Nat → List SV → List SO → Out) (N nl : Nat) (m9 : Nat) (x0 x1 x8 x10 x11 : SV) (os : List SO) : Out :=
 bd (ret1 (binS tab .add 3 x11 (SV.v (.int .i64 1))) os) fun v34 o34 =>
 L99_9 K N nl m9 x0 x1 x8 x10 v34 o34
noncomputable def LB99_17 (K : Nat → List SV → List SO → Out) (N nl : Nat) (m9 : Nat) (m17 : Nat) (x0 x1 x8 x10 x12 x14 : SV) (os : List SO) : Out :=
 bd (ret1 (fieldAddrS tab 29 x12 3) os) fun v35 o35 =>
 bd (ret1 (loadS tab o35 27 v35) o35) fun v36 o36 =>
 bd (lenO tab 27 o36 v36) fun v37 o37 =>
 bd (ret1 (binS tab .lss 3 x14 v37) o37) fun v38 o38 =>
 condS v38 (bd (ret1 (fieldAddrS tab 29 x12 3) o38) fun v39 o39 =>
 bd (ret1 (loadS tab o39 27 v39) o39) fun v40 o40 =>
 bd (ret1 (indexAddrS tab o40 27 v40 x14) o40) fun v41 o41 =>
 bd (ret1 (fieldAddrS tab 43 v41 0) o41) fun v42 o42 =>
 bd (ret1 (loadS tab o42 3 v42) o42) fun v43 o43 =>
 bd (ret1 (indexAddrS tab o43 126 x8 v43) o43) fun v44 o44 =>
 bd (storeO tab o44 4 v44 (some (SV.v (.bool true)))) fun v45 o45 =>
 bd (ret1 (binS tab .add 3 x14 (SV.v (.int .i64 1))) o45) fun v46 o46 =>
 L99_17 K N nl m9 m17 x0 x1 x8 x10 x12 v46 o46)
 (J99_10 K N nl m9 x0 x1 x8 x10 (SV.v (.int .i64 0)) o38)
noncomputable def X99 (K : Nat → List SV → List SO → Out) (N nl : Nat) (x0 x1 x2 : SV) (os : List SO) : Out := exec (cx K) N nl fi99 c99 [(0, x0), (1, x1), (2, x2)] os (kEnd tab nl rs99)
noncomputable def B99 (K : Nat → List SV → List SO → Out) (N nl : Nat) (x0 x1 x2 : SV) (os : List SO) : Out :=
 bd (evN tab 23 os none) fun v1 o1 =>
 bd (makeS tab o1 126 (SV.v (.int .i64 5)) (SV.v (.int .i64 5))) fun v2 o2 =>
 bd (ret1 (indexAddrS tab o2 126 v2 x2) o2) fun v3 o3 =>
 bd (storeO tab o3 4 v3 (some (SV.v (.bool true)))) fun v4 o4 =>
 L99_4 K N nl N x0 x1 v2 (SV.v (.int .i64 0)) o4
noncomputable def bk100_4 (K : Nat → List SV → List SO → Out) (N nl : Nat) (m4 : Nat) : Env → List SO → Out := fun env os => loopS nl (fi100.lp 4) (fun env os nx => exec (cx K) N nl fi100 (subC c100 [1, 1, 1, 0, 1, 0, 0]) env os (kLoop nx (kBlock 0 (kSeq (exec (cx K) N nl fi100 (subC c100 [1, 1, 1, 1])) (fi100.jn 8) (kEnd tab nl rs100))))) m4 (killS (fi100.lp 4).alive env) os
noncomputable def bk100_9 (K : Nat → List SV → List SO → Out) (N nl : Nat) (m9 : Nat) : Env → List SO → Out := fun env os => loopS nl (fi100.lp 9) (fun env os nx => exec (cx K) N nl fi100 (subC c100 [1, 1, 1, 1, 0, 1, 0, 0]) env os (kLoop nx (kBlock 2 (kSeq (exec (cx K) N nl fi100 (subC c100 [1, 1, 1, 1, 1])) (fi100.jn 13) (kEnd tab nl rs100))))) m9 (killS (fi100.lp 9).alive env) os
noncomputable def L100_4 (K : Nat → List SV → List SO → Out) (N nl : Nat) (m4 : Nat) (x0 x1 x6 x7 x8 x9 : SV) (os : List SO) : Out := loopS nl (fi100.lp 4) (fun env os nx => exec (cx K) N nl fi100 (subC c100 [1, 1, 1, 0, 1, 0, 0]) env os (kLoop nx (kBlock 0 (kSeq (exec (cx K) N nl fi100 (subC c100 [1, 1, 1, 1])) (fi100.jn 8) (kEnd tab nl rs100))))) m4 [(0, x0), (1, x1), (6, x6), (7, x7), (8, x8), (9, x9)] os
noncomputable def G100_4 (K : Nat → List SV → List SO → Out) (N nl : Nat) (m4 : Nat) (xs : List SV) (os : List SO) : Out := (fun env os nx => exec (cx K) N nl fi100 (subC c100 [1, 1, 1, 0, 1, 0, 0]) env os (kLoop nx (kBlock 0 (kSeq (exec (cx K) N nl fi100 (subC c100 [1, 1, 1, 1])) (fi100.jn 8) (kEnd tab nl rs100))))) (zipE [0, 1, 6, 7, 8, 9] xs) os (bk100_4 K N nl m4)
noncomputable def L100_9 (K : Nat → List SV → List SO → Out) (N nl : Nat) (m9 : Nat) (x0 x1 x6 x7 x10 : SV) (os : List SO) : Out := loopS nl (fi100.lp 9) (fun env os nx => exec (cx K) N nl fi100 (subC c100 [1, 1, 1, 1, 0, 1, 0, 0]) env os (kLoop nx (kBlock 2 (kSeq (exec (cx K) N nl fi100 (subC c100 [1, 1, 1, 1, 1])) (fi100.jn 13) (kEnd tab nl rs100))))) m9 [(0, x0), (1, x1), (6, x6), (7, x7), (10, x10)] os
noncomputable def G100_9 (K : Nat → List SV → List SO → Out) (N nl : Nat) (m9 : Nat) (xs : List SV) (os : List SO) : Out := (fun env os nx => exec (cx K) N nl fi100 (subC c100 [1, 1, 1, 1, 0, 1, 0, 0]) env os (kLoop nx (kBlock 2 (kSeq (exec (cx K) N nl fi100 (subC c100 [1, 1, 1, 1, 1])) (fi100.jn 13) (kEnd tab nl rs100))))) (zipE [0, 1, 6, 7, 10] xs) os (bk100_9 K N nl m9)
noncomputable def J100_10 (K : Nat → List SV → List SO → Out) (N nl : Nat) (m9 : Nat) (x0 x1 x6 x7 x10 : SV) (os : List SO) : Out := exec (cx K) N nl fi100 (subC c100 [1, 1, 1, 1, 0, 1, 0, 0, 1, 1]) [(0, x0), (1, x1), (6, x6), (7, x7), (10, x10)] os (kLoop (bk100_9 K N nl m9) (kBlock 2 (kSeq (exec (cx K) N nl fi100 (subC c100 [1, 1, 1, 1, 1])) (fi100.jn 13) (kEnd tab nl rs100))))
noncomputable def GB100_4 (K : Nat → List SV → List SO → Out) (N nl : Nat) (m4 : Nat) (x0 x1 x6 x7 x8 x9 : SV) (os : List SO) : Out :=
 bd (ret1 (binS tab .gtr 3 x9 (SV.v (.int .i64 0))) os) fun v9 o9 =>
 bd (gd v9 true (some (x8, o9)) o9) fun v10 o10 =>
 bd (gd v9 true (ret1 (binS tab .lss 3 v10 (SV.v (.int .i64 6))) o10) o10) fun v11 o11 =>
 bd (ret1 (pickS v9 v11 (SV.v (.bool false))) o11) fun v12 o12 =>
 condS v12 (bd (ret1 (fieldAddrS tab 29 x7 2) o12) fun v13 o13 =>
 dchk (isBox v13) <|
 bd (ret1 (loadS tab o13 26 v13) o13) fun v14 o14 =>
 dchk (keepOk ⟨tab, ownF, K⟩ o14 (SV.fn 51 []) [x0, (SV.v (.int .i64 10))] [v13] false) <|
 bd (callS ⟨tab, ownF, K⟩ o14 51 [x0, (SV.v (.int .i64 10))]) fun v15 o15 =>
 bd (buildS tab o15 47 [(0, (some x8)), (1, (some v15))]) fun v16 o16 =>
 bd (buildSliceS tab o16 26 1 [(0, v16)]) fun v17 o17 =>
 bd (appendS tab o17 26 26 v14 v17) fun v18 o18 =>
 bd (ret1 (fieldAddrS tab 29 x7 2) o18) fun v19 o19 =>
 bd (storeO tab o19 26 v19 (some v18)) fun v20 o20 =>
 bd (ret1 (binS tab .add 3 x8 (SV.v (.int .i64 1))) o20) fun v21 o21 =>
 bd (callS ⟨tab, ownF, K⟩ o21 51 [x0, (SV.v (.int .i64 3))]) fun v22 o22 =>
 bd (ret1 (binS tab .add 3 v21 v22) o22) fun v23 o23 =>
 bd (ret1 (binS tab .sub 3 x9 (SV.v (.int .i64 1))) o23) fun v24 o24 =>
 L100_4 K N nl m4 x0 x1 x6 x7 v23 v24 o24)
 (L100_9 K N nl N x0 x1 x6 x7 (SV.v (.int .i64 1)) o12)
noncomputable def GB100_9 (K : Nat → List SV → List SO → Out) (N nl : Nat) (m9 : Nat) (x0 x1 x6 x7 x10 : SV) (os : List SO) : Out :=
 bd (ret1 (binS tab .leq 3 x10 (SV.v (.int .i64 4))) os) fun v25 o25 =>
 bd (gd v25 true (ret1 (fieldAddrS tab 29 x7 3) o25) o25) fun v26 o26 =>
 bd (gd v25 true (ret1 (loadS tab o26 27 v26) o26) o26) fun v27 o27 =>
 bd (gd v25 true (lenO tab 27 o27 v27) o27) fun v28 o28 =>
 bd (gd v25 true (ret1 (binS tab .lss 3 v28 (SV.v (.int .i64 2))) o28) o28) fun v29 o29 =>
 bd (ret1 (pickS v25 v29 (SV.v (.bool false))) o29) fun v30 o30 =>
 condS v30 (bd (ret1 (binS tab .neq 3 x10 x1) o30) fun v31 o31 =>
 bd (gd v31 true (some (x0, o31)) o31) fun v32 o32 =>
 bd (gd v31 true (callS ⟨tab, ownF, K⟩ o32 51 [v32, (SV.v (.int .i64 6))]) o32) fun v33 o33 =>
 bd (gd v31 true (ret1 (binS tab .eql 3 v33 (SV.v (.int .i64 0))) o33) o33) fun v34 o34 =>
 bd (ret1 (pickS v31 v34 (SV.v (.bool false))) o34) fun v35 o35 =>
 condS v35 (bd (ret1 (fieldAddrS tab 29 x7 3) o35) fun v36 o36 =>
 dchk (isBox v36) <|
 bd (ret1 (loadS tab o36 27 v36) o36) fun v37 o37 =>
 dchk (keepOk ⟨tab, ownF, K⟩ o37 (SV.fn 51 []) [x0, (SV.v (.int .i64 2))] [v36] false) <|
 bd (callS ⟨tab, ownF, K⟩ o37 51 [x0, (SV.v (.int .i64 2))]) fun v38 o38 =>
 bd (ret1 (binS tab .add 3 (SV.v (.int .i64 1)) v38) o38) fun v39 o39 =>
 bd (buildS tab o39 43 [(0, (some x10)), (1, (some v39))]) fun v40 o40 =>
 bd (buildSliceS tab o40 27 1 [(0, v40)]) fun v41 o41 =>
 bd (appendS tab o41 27 27 v37 v41) fun v42 o42 =>
 bd (ret1 (fieldAddrS tab 29 x7 3) o42) fun v43 o43 =>
 bd (storeO tab o43 27 v43 (some v42)) fun v44 o44 =>
 J100_10 K N nl m9 x0 x1 x6 x7 x10 o44)
 (J100_10 K N nl m9 x0 x1 x6 x7 x10 o35))
 (bd (ret1 (loadS tab o30 29 x7) o30) fun v45 o45 =>
 bd (storeO tab o45 29 x6 (some v45)) fun v46 o46 =>
 retV tab nl o46 (resC1 (loadS tab o46 29 x6) (some [])))
noncomputable def JB100_10 (K : Nat → List SV → List SO → Out) (N nl : Nat) (m9 : Nat) (x0 x1 x6 x7 x10 : SV) (os : List SO) : Out :=
 bd (ret1 (binS tab .add 3 x10 (SV.v (.int .i64 1))) os) fun v47 o47 =>
 L100_9 K N nl m9 x0 x1 x6 x7 v47 o47
noncomputable def X100 (K : Nat → List SV → List SO → Out) (N nl : Nat) (x0 x1 x2 : SV) (os : List SO) : Out := exec (cx K) N nl fi100 c100 [(0, x0), (1, x1), (2, x2)] os (kEnd tab nl rs100)
noncomputable def B100 (K : Nat → List SV → List SO → Out) (N nl : Nat) (x0 x1 x2 : SV) (os : List SO) : Out :=
 bd (allocS tab os 29) fun v1 o1 =>
 bd (buildSliceS tab o1 26 0 []) fun v2 o2 =>
 bd (buildSliceS tab o2 27 0 []) fun v3 o3 =>
 bd (buildS tab o3 29 [(0, (some x1)), (1, (some x2)), (2, (some v2)), (3, (some v3))]) fun v4 o4 =>
 bd (allocS tab o4 29) fun v5 o5 =>
 bd (storeO tab o5 29 v5 (some v4)) fun v6 o6 =>
 bd (callS ⟨tab, ownF, K⟩ o6 51 [x0, (SV.v (.int .i64 4))]) fun v7 o7 =>
 bd (callS ⟨tab, ownF, K⟩ o7 51 [x0, (SV.v (.int .i64 3))]) fun v8 o8 =>
 L100_4 K N nl N x0 x1 v1 v5 v7 v8 o8
noncomputable def bk101_2 (K : Nat → List SV → List SO → Out) (N nl : Nat) (m2 : Nat) : Env → List SO → Out := fun env os => loopS nl (fi101.lp 2) (fun env os nx => exec (cx K) N nl fi101 (subC c101 [1, 0, 1, 0, 0]) env os (kLoop nx (kBlock 0 (kSeq (exec (cx K) N nl fi101 (subC c101 [1, 1])) (fi101.jn 6) (kEnd tab nl rs101))))) m2 (killS (fi101.lp 2).alive env) os
noncomputable def L101_2 (K : Nat → List SV → List SO → Out) (N nl : Nat) (m2 : Nat) (x0 x1 x2 x7 : SV) (os : List SO) : Out := loopS nl (fi101.lp 2) (fun env os nx => exec (cx K) N nl fi101 (subC c101 [1, 0, 1, 0, 0]) env os (kLoop nx (kBlock 0 (kSeq (exec (cx K) N nl fi101 (subC c101 [1, 1])) (fi101.jn 6) (kEnd tab nl rs101))))) m2 [(0, x0), (1, x1), (2, x2), (7, x7)] os
noncomputable def LB101_2 (K : Nat → List SV → List SO → Out) (N nl : Nat) (m2 : Nat) (x0 x1 x2 x7 : SV) (os : List SO) : Out :=
 bd (lenO tab 23 os x0) fun v1 o1 =>
 bd (ret1 (binS tab .lss 3 x7 v1) o1) fun v2 o2 =>
 condS v2 (bd (ret1 (indexAddrS tab o2 23 x0 x7) o2) fun v3 o3 =>
 bd (ret1 (fieldAddrS tab 29 v3 0) o3) fun v4 o4 =>
 bd (ret1 (loadS tab o4 3 v4) o4) fun v5 o5 =>
 bd (ret1 (binS tab .eql 3 v5 x1) o5) fun v6 o6 =>
 bd (gd v6 true (some (x0, o6)) o6) fun v7 o7 =>
 bd (gd v6 true (some (x7, o7)) o7) fun v8 o8 =>
 bd (gd v6 true (ret1 (indexAddrS tab o8 23 v7 v8) o8) o8) fun v9 o9 =>
 bd (gd v6 true (ret1 (fieldAddrS tab 29 v9 1) o9) o9) fun v10 o10 =>
 bd (gd v6 true (ret1 (loadS tab o10 3 v10) o10) o10) fun v11 o11 =>
 bd (gd v6 true (some (x2, o11)) o11) fun v12 o12 =>
 bd (gd v6 true (ret1 (binS tab .eql 3 v11 v12) o12) o12) fun v13 o13 =>
 bd (ret1 (pickS v6 v13 (SV.v (.bool false))) o13) fun v14 o14 =>
 condS v14 (retV tab nl o14 (resC1 (some x7) (some [])))
 (bd (ret1 (binS tab .add 3 x7 (SV.v (.int .i64 1))) o14) fun v15 o15 =>
 L101_2 K N nl m2 x0 x1 x2 v15 o15))
 (retV tab nl o2 (resC1 (some (SV.v (.int .i64 (-1)))) (some [])))
noncomputable def X101 (K : Nat → List SV → List SO → Out) (N nl : Nat) (x0 x1 x2 : SV) (os : List SO) : Out := exec (cx K) N nl fi101 c101 [(0, x0), (1, x1), (2, x2)] os (kEnd tab nl rs101)
noncomputable def B101 (K : Nat → List SV → List SO → Out) (N nl : Nat) (x0 x1 x2 : SV) (os : List SO) : Out :=
 L101_2 K N nl N x0 x1 x2 (SV.v (.int .i64 0)) os
noncomputable def bk102_3 (K : Nat → List SV → List SO → Out) (N nl : Nat) (m3 : Nat) : Env → List SO → Out := fun env os => loopS nl (fi102.lp 3) (fun env os nx => exec (cx K) N nl fi102 (subC c102 [1, 1, 0, 1, 0, 0]) env os (kLoop nx (kBlock 0 (kSeq (exec (cx K) N nl fi102 (subC c102 [1, 1, 1])) (fi102.jn 7) (kEnd tab nl rs102))))) m3 (killS (fi102.lp 3).alive env) os
noncomputable def bk102_9 (K : Nat → List SV → List SO → Out) (N nl : Nat) (m9 : Nat) : Env → List SO → Out := fun env os => loopS nl (fi102.lp 9) (fun env os nx => exec (cx K) N nl fi102 (subC c102 [1, 1, 1, 1, 0, 1, 0, 0]) env os (kLoop nx (kBlock 2 (kSeq (exec (cx K) N nl fi102 (subC c102 [1, 1, 1, 1, 1])) (fi102.jn 13) (kEnd tab nl rs102))))) m9 (killS (fi102.lp 9).alive env) os
noncomputable def L102_3 (K : Nat → List SV → List SO → Out) (N nl : Nat) (m3 : Nat) (x0 x3 x5 x6 : SV) (os : List SO) : Out := loopS nl (fi102.lp 3) (fun env os nx => exec (cx K) N nl fi102 (subC c102 [1, 1, 0, 1, 0, 0]) env os (kLoop nx (kBlock 0 (kSeq (exec (cx K) N nl fi102 (subC c102 [1, 1, 1])) (fi102.jn 7) (kEnd tab nl rs102))))) m3 [(0, x0), (3, x3), (5, x5), (6, x6)] os
noncomputable def G102_3 (K : Nat → List SV → List SO → Out) (N nl : Nat) (m3 : Nat) (xs : List SV) (os : List SO) : Out := (fun env os nx => exec (cx K) N nl fi102 (subC c102 [1, 1, 0, 1, 0, 0]) env os (kLoop nx (kBlock 0 (kSeq (exec (cx K) N nl fi102 (subC c102 [1, 1, 1])) (fi102.jn 7) (kEnd tab nl rs102))))) (zipE [0, 3, 5, 6] xs) os (bk102_3 K N nl m3)
noncomputable def J102_4 (K : Nat → List SV → List SO → Out) (N nl : Nat) (m3 : Nat) (x0 x3 x5 x6 : SV) (os : List SO) : Out := exec (cx K) N nl fi102 (subC c102 [1, 1, 0, 1, 0, 0, 1, 1]) [(0, x0), (3, x3), (5, x5), (6, x6)] os (kLoop (bk102_3 K N nl m3) (kBlock 0 (kSeq (exec (cx K) N nl fi102 (subC c102 [1, 1, 1])) (fi102.jn 7) (kEnd tab nl rs102))))
noncomputable def L102_9 (K : Nat → List SV → List SO → Out) (N nl : Nat) (m9 : Nat) (x0 x3 x5 x7 : SV) (os : List SO) : Out := loopS nl (fi102.lp 9) (fun env os nx => exec (cx K) N nl fi102 (subC c102 [1, 1, 1, 1, 0, 1, 0, 0]) env os (kLoop nx (kBlock 2 (kSeq (exec (cx K) N nl fi102 (subC c102 [1, 1, 1, 1, 1])) (fi102.jn 13) (kEnd tab nl rs102))))) m9 [(0, x0), (3, x3), (5, x5), (7, x7)] os
noncomputable def G102_9 (K : Nat → List SV → List SO → Out) (N nl : Nat) (m9 : Nat) (xs : List SV) (os : List SO) : Out := (fun env os nx => exec (cx K) N nl fi102 (subC c102 [1, 1, 1, 1, 0, 1, 0, 0]) env os (kLoop nx (kBlock 2 (kSeq (exec (cx K) N nl fi102 (subC c102 [1, 1, 1, 1, 1])) (fi102.jn 13) (kEnd tab nl rs102))))) (zipE [0, 3, 5, 7] xs) os (bk102_9 K N nl m9)
noncomputable def J102_10 (K : Nat → List SV → List SO → Out) (N nl : Nat) (m9 : Nat) (x0 x3 x5 x7 : SV) (os : List SO) : Out := exec (cx K) N nl fi102 (subC c102 [1, 1, 1, 1, 0, 1, 0, 0, 1, 1]) [(0, x0), (3, x3), (5, x5), (7, x7)] os (kLoop (bk102_9 K N nl m9) (kBlock 2 (kSeq (exec (cx K) N nl fi102 (subC c102 [1, 1, 1, 1, 1])) (fi102.jn 13) (kEnd tab nl rs102))))
noncomputable def GB102_3 (K : Nat → List SV → List SO → Out) (N nl : Nat) (m3 : Nat) (x0 x3 x5 x6 : SV) (os : List SO) : Out :=
 bd (lenO tab 23 os x0) fun v4 o4 =>
 bd (ret1 (binS tab .lss 3 x6 v4) o4) fun v5 o5 =>
 condS v5 (bd (ret1 (indexAddrS tab o5 23 x0 x6) o5) fun v6 o6 =>
 bd (ret1 (fieldAddrS tab 29 v6 0) o6) fun v7 o7 =>
 bd (ret1 (loadS tab o7 3 v7) o7) fun v8 o8 =>
 bd (ret1 (indexAddrS tab o8 23 x0 x6) o8) fun v9 o9 =>
 bd (ret1 (fieldAddrS tab 29 v9 1) o9) fun v10 o10 =>
 bd (ret1 (loadS tab o10 3 v10) o10) fun v11 o11 =>
 bd (ret1 (fieldAddrS tab 29 x3 0) o11) fun v12 o12 =>
 bd (ret1 (loadS tab o12 3 v12) o12) fun v13 o13 =>
 bd (ret1 (fieldAddrS tab 29 x3 1) o13) fun v14 o14 =>
 bd (ret1 (loadS tab o14 3 v14) o14) fun v15 o15 =>
 bd (callS ⟨tab, ownF, K⟩ o15 91 [v8, v11, v13, v15]) fun v16 o16 =>
 condS v16 (bd (ret1 (indexAddrS tab o16 23 x0 x6) o16) fun v17 o17 =>
 bd (ret1 (loadS tab o17 29 v17) o17) fun v18 o18 =>
 bd (buildSliceS tab o18 23 1 [(0, v18)]) fun v19 o19 =>
 bd (appendS tab o19 23 23 x5 v19) fun v20 o20 =>
 J102_4 K N nl m3 x0 x3 v20 x6 o20)
 (J102_4 K N nl m3 x0 x3 x5 x6 o16))
 (bd (ret1 (loadS tab o5 29 x3) o5) fun v21 o21 =>
 bd (buildSliceS tab o21 23 1 [(0, v21)]) fun v22 o22 =>
 bd (appendS tab o22 23 23 x5 v22) fun v23 o23 =>
 L102_9 K N nl N x0 x3 v23 (SV.v (.int .i64 0)) o23)
noncomputable def JB102_4 (K : Nat → List SV → List SO → Out) (N nl : Nat) (m3 : Nat) (x0 x3 x5 x6 : SV) (os : List SO) : Out :=
 bd (ret1 (binS tab .add 3 x6 (SV.v (.int .i64 1))) os) fun v24 o24 =>
 L102_3 K N nl m3 x0 x3 x5 v24 o24
noncomputable def GB102_9 (K : Nat → List SV → List SO → Out) (N nl : Nat) (m9 : Nat) (x0 x3 x5 x7 : SV) (os : List SO) : Out :=
 bd (lenO tab 23 os x0) fun v25 o25 =>
 bd (ret1 (binS tab .lss 3 x7 v25) o25) fun v26 o26 =>
 condS v26 (bd (ret1 (fieldAddrS tab 29 x3 0) o26) fun v27 o27 =>
 bd (ret1 (loadS tab o27 3 v27) o27) fun v28 o28 =>
 bd (ret1 (fieldAddrS tab 29 x3 1) o28) fun v29 o29 =>
 bd (ret1 (loadS tab o29 3 v29) o29) fun v30 o30 =>
 bd (ret1 (indexAddrS tab o30 23 x0 x7) o30) fun v31 o31 =>
 bd (ret1 (fieldAddrS tab 29 v31 0) o31) fun v32 o32 =>
 bd (ret1 (loadS tab o32 3 v32) o32) fun v33 o33 =>
 bd (ret1 (indexAddrS tab o33 23 x0 x7) o33) fun v34 o34 =>
 bd (ret1 (fieldAddrS tab 29 v34 1) o34) fun v35 o35 =>
 bd (ret1 (loadS tab o35 3 v35) o35) fun v36 o36 =>
 bd (callS ⟨tab, ownF, K⟩ o36 91 [v28, v30, v33, v36]) fun v37 o37 =>
 condS v37 (bd (ret1 (indexAddrS tab o37 23 x0 x7) o37) fun v38 o38 =>
 bd (ret1 (loadS tab o38 29 v38) o38) fun v39 o39 =>
 bd (buildSliceS tab o39 23 1 [(0, v39)]) fun v40 o40 =>
 bd (appendS tab o40 23 23 x5 v40) fun v41 o41 =>
 J102_10 K N nl m9 x0 x3 v41 x7 o41)
 (J102_10 K N nl m9 x0 x3 x5 x7 o37))
 (retV tab nl o26 (resC1 (some x5) (some [])))
noncomputable def JB102_10 (K : Nat → List SV → List SO → Out) (N nl : Nat) (m9 : Nat) (x0 x3 x5 x7 : SV) (os : List SO) : Out :=
 bd (ret1 (binS tab .add 3 x7 (SV.v (.int .i64 1))) os) fun v42 o42 =>
 L102_9 K N nl m9 x0 x3 x5 v42 o42
noncomputable def X102 (K : Nat → List SV → List SO → Out) (N nl : Nat) (x0 x1 : SV) (os : List SO) : Out := exec (cx K) N nl fi102 c102 [(0, x0), (1, x1)] os (kEnd tab nl rs102)
noncomputable def B102 (K : Nat → List SV → List SO → Out) (N nl : Nat) (x0 x1 : SV) (os : List SO) : Out :=
 bd (boxS tab os 29 (some x1)) fun v1 o1 =>
 bd (evN tab 23 o1 none) fun v2 o2 =>
 bd (buildSliceS tab o2 23 0 []) fun v3 o3 =>
 L102_3 K N nl N x0 v1 v3 (SV.v (.int .i64 0)) o3
noncomputable def X103 (K : Nat → List SV → List SO → Out) (N nl : Nat) (x0 x1 : SV) (os : List SO) : Out := exec (cx K) N nl fi103 c103 [(0, x0), (1, x1)] os (kEnd tab nl rs103)
noncomputable def B103 (K : Nat → List SV → List SO → Out) (N nl : Nat) (x0 x1 : SV) (os : List SO) : Out :=
 bd (boxS tab os 47 (some x0)) fun v1 o1 =>
 bd (boxS tab o1 47 (some x1)) fun v2 o2 =>
 bd (ret1 (fieldAddrS tab 47 v1 0) o2) fun v3 o3 =>
 bd (ret1 (loadS tab o3 3 v3) o3) fun v4 o4 =>
 bd (ret1 (fieldAddrS tab 47 v2 0) o4) fun v5 o5 =>
 bd (ret1 (loadS tab o5 3 v5) o5) fun v6 o6 =>
 bd (ret1 (binS tab .neq 3 v4 v6) o6) fun v7 o7 =>
 condS v7 (retV tab nl o7 (resC1 (some (SV.v (.bool false))) (some [])))
 (bd (ret1 (fieldAddrS tab 47 v1 1) o7) fun v8 o8 =>
 bd (ret1 (loadS tab o8 3 v8) o8) fun v9 o9 =>
 bd (ret1 (fieldAddrS tab 47 v2 1) o9) fun v10 o10 =>
 bd (ret1 (loadS tab o10 3 v10) o10) fun v11 o11 =>
 bd (ret1 (binS tab .neq 3 v9 v11) o11) fun v12 o12 =>
 condS v12 (retV tab nl o12 (resC1 (some (SV.v (.bool false))) (some [])))
 (retV tab nl o12 (resC1 (some (SV.v (.bool true))) (some []))))
noncomputable def X104 (K : Nat → List SV → List SO → Out) (N nl : Nat) (x0 x1 : SV) (os : List SO) : Out := exec (cx K) N nl fi104 c104 [(0, x0), (1, x1)] os (kEnd tab nl rs104)
noncomputable def B104 (K : Nat → List SV → List SO → Out) (N nl : Nat) (x0 x1 : SV) (os : List SO) : Out :=
 bd (boxS tab os 43 (some x0)) fun v1 o1 =>
 bd (boxS tab o1 43 (some x1)) fun v2 o2 =>
 bd (ret1 (fieldAddrS tab 43 v1 0) o2) fun v3 o3 =>
 bd (ret1 (loadS tab o3 3 v3) o3) fun v4 o4 =>
 bd (ret1 (fieldAddrS tab 43 v2 0) o4) fun v5 o5 =>
 bd (ret1 (loadS tab o5 3 v5) o5) fun v6 o6 =>
 bd (ret1 (binS tab .neq 3 v4 v6) o6) fun v7 o7 =>
 condS v7 (retV tab nl o7 (resC1 (some (SV.v (.bool false))) (some [])))
 (bd (ret1 (fieldAddrS tab 43 v1 1) o7) fun v8 o8 =>
 bd (ret1 (loadS tab o8 3 v8) o8) fun v9 o9 =>
 bd (ret1 (fieldAddrS tab 43 v2 1) o9) fun v10 o10 =>
 bd (ret1 (loadS tab o10 3 v10) o10) fun v11 o11 =>
 bd (ret1 (binS tab .neq 3 v9 v11) o11) fun v12 o12 =>
 condS v12 (retV tab nl o12 (resC1 (some (SV.v (.bool false))) (some [])))
 (retV tab nl o12 (resC1 (some (SV.v (.bool true))) (some []))))
noncomputable def X105 (K : Nat → List SV → List SO → Out) (N nl : Nat) (x0 x1 : SV) (os : List SO) : Out := exec (cx K) N nl fi105 c105 [(0, x0), (1, x1)] os (kEnd tab nl rs105)
noncomputable def B105 (K : Nat → List SV → List SO → Out) (N nl : Nat) (x0 x1 : SV) (os : List SO) : Out :=
 condS (SV.v (.bool false)) (bd (convS tab os 113 129 x0) fun v1 o1 =>
 bd (convS tab o1 113 129 x1) fun v2 o2 =>
 bd (callS ⟨tab, ownF, K⟩ o2 118 [v1, v2]) fun v3 o3 =>
 bd (ret1 (extractS v3 0) o3) fun v4 o4 =>
 bd (ret1 (extractS v3 1) o4) fun v5 o5 =>
 bd (convS tab o5 129 113 v4) fun v6 o6 =>
 bd (convS tab o6 129 113 v5) fun v7 o7 =>
 retV tab nl o7 (resC1 (some v6) (resC1 (some v7) (some []))))
 (bd (callS ⟨tab, ownF, K⟩ os 119 [x0, x1]) fun v8 o8 =>
 bd (ret1 (extractS v8 0) o8) fun v9 o9 =>
 bd (ret1 (extractS v8 1) o9) fun v10 o10 =>
 retV tab nl o10 (resC1 (some v9) (resC1 (some v10) (some []))))
noncomputable def bk106_2 (K : Nat → List SV → List SO → Out) (N nl : Nat) (m2 : Nat) : Env → List SO → Out := fun env os => loopS nl (fi106.lp 2) (fun env os nx => exec (cx K) N nl fi106 (subC c106 [1, 0, 1, 0, 0]) env os (kLoop nx (kBlock 0 (kSeq (exec (cx K) N nl fi106 (subC c106 [1, 1])) (fi106.jn 7) (kEnd tab nl rs106))))) m2 (killS (fi106.lp 2).alive env) os
noncomputable def L106_2 (K : Nat → List SV → List SO → Out) (N nl : Nat) (m2 : Nat) (x0 x1 x7 x8 : SV) (os : List SO) : Out := loopS nl (fi106.lp 2) (fun env os nx => exec (cx K) N nl fi106 (subC c106 [1, 0, 1, 0, 0]) env os (kLoop nx (kBlock 0 (kSeq (exec (cx K) N nl fi106 (subC c106 [1, 1])) (fi106.jn 7) (kEnd tab nl rs106))))) m2 [(0, x0), (1, x1), (7, x7), (8, x8)] os
noncomputable def LB106_2 (K : Nat → List SV → List SO → Out) (N nl : Nat) (m2 : Nat) (x0 x1 x7 x8 : SV) (os : List SO) : Out :=
 bd (ret1 (binS tab .lss 3 x8 x7) os) fun v2 o2 =>
 condS v2 (bd (ret1 (indexAddrS tab o2 45 x0 x8) o2) fun v3 o3 =>
 bd (ret1 (loadS tab o3 3 v3) o3) fun v4 o4 =>
 bd (calleeS ⟨tab, ownF, K⟩ o4 x1 [v4]) fun v5 o5 =>
 condS v5 (retV tab nl o5 (resC1 (some x8) (some [])))
 (bd (ret1 (binS tab .add 3 x8 (SV.v (.int .i64 1))) o5) fun v6 o6 =>
 L106_2 K N nl m2 x0 x1 x7 v6 o6))
 (retV tab nl o2 (resC1 (some (SV.v (.int .i64 (-1)))) (some [])))
noncomputable def X106 (K : Nat → List SV → List SO → Out) (N nl : Nat) (x0 x1 : SV) (os : List SO) : Out := exec (cx K) N nl fi106 c106 [(0, x0), (1, x1)] os (kEnd tab nl rs106)
noncomputable def B106 (K : Nat → List SV → List SO → Out) (N nl : Nat) (x0 x1 : SV) (os : List SO) : Out :=
 bd (lenO tab 45 os x0) fun v1 o1 =>
 L106_2 K N nl N x0 x1 v1 (SV.v (.int .i64 0)) o1
noncomputable def X107 (K : Nat → List SV → List SO → Out) (N nl : Nat) (x0 : SV) (os : List SO) : Out := exec (cx K) N nl fi107 c107 [(0, x0)] os (kEnd tab nl rs107)
noncomputable def B107 (K : Nat → List SV → List SO → Out) (N nl : Nat) (x0 : SV) (os : List SO) : Out :=
 bd (callS ⟨tab, ownF, K⟩ os 80 [x0, (SV.v (.int .i64 1)), (SV.v (.int .i64 4))]) fun v1 o1 =>
 retV tab nl o1 (resC1 (some v1) (some []))
noncomputable def X108 (K : Nat → List SV → List SO → Out) (N nl : Nat) (x0 : SV) (os : List SO) : Out := exec (cx K) N nl fi108 c108 [(0, x0)] os (kEnd tab nl rs108)
noncomputable def B108 (K : Nat → List SV → List SO → Out) (N nl : Nat) (x0 : SV) (os : List SO) : Out :=
 bd (callS ⟨tab, ownF, K⟩ os 80 [x0, (SV.v (.int .i64 1)), (SV.v (.int .i64 5))]) fun v1 o1 =>
 retV tab nl o1 (resC1 (some v1) (some []))
noncomputable def bk109_3 (K : Nat → List SV → List SO → Out) (N nl : Nat) (m3 : Nat) : Env → List SO → Out := fun env os => loopS nl (fi109.lp 3) (fun env os nx => exec (cx K) N nl fi109 (subC c109 [1, 1, 0, 1, 0, 0]) env os (kLoop nx (kBlock 0 (kSeq (exec (cx K) N nl fi109 (subC c109 [1, 1, 1])) (fi109.jn 8) (kEnd tab nl rs109))))) m3 (killS (fi109.lp 3).alive env) os
noncomputable def L109_3 (K : Nat → List SV → List SO → Out) (N nl : Nat) (m3 : Nat) (x3 x6 x7 x8 : SV) (os : List SO) : Out := loopS nl (fi109.lp 3) (fun env os nx => exec (cx K) N nl fi109 (subC c109 [1, 1, 0, 1, 0, 0]) env os (kLoop nx (kBlock 0 (kSeq (exec (cx K) N nl fi109 (subC c109 [1, 1, 1])) (fi109.jn 8) (kEnd tab nl rs109))))) m3 [(3, x3), (6, x6), (7, x7), (8, x8)] os
noncomputable def LB109_3 (K : Nat → List SV → List SO → Out) (N nl : Nat) (m3 : Nat) (x3 x6 x7 x8 : SV) (os : List SO) : Out :=
 bd (ret1 (binS tab .lss 3 x8 x7) os) fun v2 o2 =>
 condS v2 (bd (ret1 (indexAddrS tab o2 45 x6 x8) o2) fun v3 o3 =>
 bd (ret1 (loadS tab o3 3 v3) o3) fun v4 o4 =>
 bd (ret1 (binS tab .neq 3 v4 x3) o4) fun v5 o5 =>
 condS v5 (retV tab nl o5 (resC1 (some v4) (some [])))
 (bd (ret1 (binS tab .add 3 x8 (SV.v (.int .i64 1))) o5) fun v6 o6 =>
 L109_3 K N nl m3 x3 x6 x7 v6 o6))
 (retV tab nl o2 (resC1 (some x3) (some [])))
noncomputable def X109 (K : Nat → List SV → List SO → Out) (N nl : Nat) (x0 : SV) (os : List SO) : Out := exec (cx K) N nl fi109 c109 [(0, x0)] os (kEnd tab nl rs109)
noncomputable def B109 (K : Nat → List SV → List SO → Out) (N nl : Nat) (x0 : SV) (os : List SO) : Out :=
 bd (lenO tab 45 os x0) fun v1 o1 =>
 L109_3 K N nl N (SV.v (.int .i64 0)) x0 v1 (SV.v (.int .i64 0)) o1
noncomputable def X110 (K : Nat → List SV → List SO → Out) (N nl : Nat) (x0 x1 : SV) (os : List SO) : Out := exec (cx K) N nl fi110 c110 [(0, x0), (1, x1)] os (kEnd tab nl rs110)
noncomputable def B110 (K : Nat → List SV → List SO → Out) (N nl : Nat) (x0 x1 : SV) (os : List SO) : Out :=
 bd (callS ⟨tab, ownF, K⟩ os 120 [x0]) fun v1 o1 =>
 bd (callS ⟨tab, ownF, K⟩ o1 120 [x1]) fun v2 o2 =>
 condS v1 (condS v2 (retV tab nl o2 (resC1 (some (SV.v (.int .i64 0))) (some [])))
 (retV tab nl o2 (resC1 (some (SV.v (.int .i64 (-1)))) (some []))))
 (condS v2 (retV tab nl o2 (resC1 (some (SV.v (.int .i64 1))) (some [])))
 (bd (ret1 (binS tab .lss 3 x0 x1) o2) fun v3 o3 =>
 condS v3 (retV tab nl o3 (resC1 (some (SV.v (.int .i64 (-1)))) (some [])))
 (bd (ret1 (binS tab .gtr 3 x0 x1) o3) fun v4 o4 =>
 condS v4 (retV tab nl o4 (resC1 (some (SV.v (.int .i64 1))) (some [])))
 (retV tab nl o4 (resC1 (some (SV.v (.int .i64 0))) (some []))))))
noncomputable def bk111_2 (K : Nat → List SV → List SO → Out) (N nl : Nat) (m2 : Nat) : Env → List SO → Out := fun env os => loopS nl (fi111.lp 2) (fun env os nx => exec (cx K) N nl fi111 (subC c111 [1, 0, 1, 0, 0]) env os (kLoop nx (kBlock 0 (kSeq (exec (cx K) N nl fi111 (subC c111 [1, 1])) (fi111.jn 6) (kEnd tab nl rs111))))) m2 (killS (fi111.lp 2).alive env) os
noncomputable def L111_2 (K : Nat → List SV → List SO → Out) (N nl : Nat) (m2 : Nat) (x0 x3 : SV) (os : List SO) : Out := loopS nl (fi111.lp 2) (fun env os nx => exec (cx K) N nl fi111 (subC c111 [1, 0, 1, 0, 0]) env os (kLoop nx (kBlock 0 (kSeq (exec (cx K) N nl fi111 (subC c111 [1, 1])) (fi111.jn 6) (kEnd tab nl rs111))))) m2 [(0, x0), (3, x3)] os
noncomputable def LB111_2 (K : Nat → List SV → List SO → Out) (N nl : Nat) (m2 : Nat) (x0 x3 : SV) (os : List SO) : Out :=
 bd (lenO tab 26 os x0) fun v1 o1 =>
 bd (ret1 (binS tab .lss 3 x3 v1) o1) fun v2 o2 =>
 condS v2 (bd (ret1 (indexAddrS tab o2 26 x0 x3) o2) fun v3 o3 =>
 bd (ret1 (fieldAddrS tab 47 v3 0) o3) fun v4 o4 =>
 bd (ret1 (loadS tab o4 3 v4) o4) fun v5 o5 =>
 bd (callS ⟨tab, ownF, K⟩ o5 77 [v5, (SV.v (.int .i64 0)), (SV.v (.int .i64 5))]) fun v6 o6 =>
 bd (ret1 (unS .not v6) o6) fun v7 o7 =>
 bd (gd v7 false (some (x0, o7)) o7) fun v8 o8 =>
 bd (gd v7 false (some (x3, o8)) o8) fun v9 o9 =>
 bd (gd v7 false (ret1 (indexAddrS tab o9 26 v8 v9) o9) o9) fun v10 o10 =>
 bd (gd v7 false (ret1 (fieldAddrS tab 47 v10 1) o10) o10) fun v11 o11 =>
 bd (gd v7 false (ret1 (loadS tab o11 3 v11) o11) o11) fun v12 o12 =>
 bd (gd v7 false (callS ⟨tab, ownF, K⟩ o12 77 [v12, (SV.v (.int .i64 0)), (SV.v (.int .i64 9))]) o12) fun v13 o13 =>
 bd (gd v7 false (ret1 (unS .not v13) o13) o13) fun v14 o14 =>
 bd (ret1 (pickS v7 (SV.v (.bool true)) v14) o14) fun v15 o15 =>
 bd (gd v15 false (some (x3, o15)) o15) fun v16 o16 =>
 bd (gd v15 false (ret1 (binS tab .gtr 3 v16 (SV.v (.int .i64 0))) o16) o16) fun v17 o17 =>
 bd (gd v15 false (some (v17, o17)) o17) fun v18 o18 =>
 bd (gd v18 true (some (x0, o18)) o18) fun v19 o19 =>
 bd (gd v18 true (some (x3, o19)) o19) fun v20 o20 =>
 bd (gd v18 true (ret1 (binS tab .sub 3 v20 (SV.v (.int .i64 1))) o20) o20) fun v21 o21 =>
 bd (gd v18 true (ret1 (indexAddrS tab o21 26 v19 v21) o21) o21) fun v22 o22 =>
 bd (gd v18 true (ret1 (fieldAddrS tab 47 v22 0) o22) o22) fun v23 o23 =>
 bd (gd v18 true (ret1 (loadS tab o23 3 v23) o23) o23) fun v24 o24 =>
 bd (gd v18 true (some (x0, o24)) o24) fun v25 o25 =>
 bd (gd v18 true (some (x3, o25)) o25) fun v26 o26 =>
 bd (gd v18 true (ret1 (indexAddrS tab o26 26 v25 v26) o26) o26) fun v27 o27 =>
 bd (gd v18 true (ret1 (fieldAddrS tab 47 v27 0) o27) o27) fun v28 o28 =>
 bd (gd v18 true (ret1 (loadS tab o28 3 v28) o28) o28) fun v29 o29 =>
 bd (gd v18 true (ret1 (binS tab .geq 3 v24 v29) o29) o29) fun v30 o30 =>
 bd (gd v15 false (ret1 (pickS v18 v30 (SV.v (.bool false))) o30) o30) fun v31 o31 =>
 bd (ret1 (pickS v15 (SV.v (.bool true)) v31) o31) fun v32 o32 =>
 condS v32 (retV tab nl o32 (resC1 (some (SV.v (.bool false))) (some [])))
 (bd (ret1 (binS tab .add 3 x3 (SV.v (.int .i64 1))) o32) fun v33 o33 =>
 L111_2 K N nl m2 x0 v33 o33))
 (bd (lenO tab 26 o2 x0) fun v34 o34 =>
 bd (ret1 (binS tab .leq 3 v34 (SV.v (.int .i64 2))) o34) fun v35 o35 =>
 retV tab nl o35 (resC1 (some v35) (some [])))
noncomputable def X111 (K : Nat → List SV → List SO → Out) (N nl : Nat) (x0 : SV) (os : List SO) : Out := exec (cx K) N nl fi111 c111 [(0, x0)] os (kEnd tab nl rs111)
noncomputable def B111 (K : Nat → List SV → List SO → Out) (N nl : Nat) (x0 : SV) (os : List SO) : Out :=
 L111_2 K N nl N x0 (SV.v (.int .i64 0)) os
noncomputable def bk112_2 (K : Nat → List SV → List SO → Out) (N nl : Nat) (m2 : Nat) : Env → List SO → Out := fun env os => loopS nl (fi112.lp 2) (fun env os nx => exec (cx K) N nl fi112 (subC c112 [1, 0, 1, 0, 0]) env os (kLoop nx (kBlock 0 (kSeq (exec (cx K) N nl fi112 (subC c112 [1, 1])) (fi112.jn 7) (kEnd tab nl rs112))))) m2 (killS (fi112.lp 2).alive env) os
noncomputable def L112_2 (K : Nat → List SV → List SO → Out) (N nl : Nat) (m2 : Nat) (x0 x1 x5 : SV) (os : List SO) : Out := loopS nl (fi112.lp 2) (fun env os nx => exec (cx K) N nl fi112 (subC c112 [1, 0, 1, 0, 0]) env os (kLoop nx (kBlock 0 (kSeq (exec (cx K) N nl fi112 (subC c112 [1, 1])) (fi112.jn 7) (kEnd tab nl rs112))))) m2 [(0, x0), (1, x1), (5, x5)] os
noncomputable def G112_2 (K : Nat → List SV → List SO → Out) (N nl : Nat) (m2 : Nat) (xs : List SV) (os : List SO) : Out := (fun env os nx => exec (cx K) N nl fi112 (subC c112 [1, 0, 1, 0, 0]) env os (kLoop nx (kBlock 0 (kSeq (exec (cx K) N nl fi112 (subC c112 [1, 1])) (fi112.jn 7) (kEnd tab nl rs112))))) (zipE [0, 1, 5] xs) os (bk112_2 K N nl m2)
noncomputable def GB112_2 (K : Nat → List SV → List SO → Out) (N nl : Nat) (m2 : Nat) (x0 x1 x5 : SV) (os : List SO) : Out :=
 bd (lenO tab 27 os x1) fun v1 o1 =>
 bd (ret1 (binS tab .lss 3 x5 v1) o1) fun v2 o2 =>
 condS v2 (bd (ret1 (indexAddrS tab o2 27 x1 x5) o2) fun v3 o3 =>
 bd (ret1 (loadS tab o3 43 v3) o3) fun v4 o4 =>
 bd (allocS tab o4 43) fun v5 o5 =>
 bd (storeO tab o5 43 v5 (some v4)) fun v6 o6 =>
 bd (ret1 (fieldAddrS tab 43 v5 0) o6) fun v7 o7 =>
 bd (ret1 (loadS tab o7 3 v7) o7) fun v8 o8 =>
 bd (callS ⟨tab, ownF, K⟩ o8 77 [v8, (SV.v (.int .i64 1)), (SV.v (.int .i64 4))]) fun v9 o9 =>
 bd (ret1 (unS .not v9) o9) fun v10 o10 =>
 bd (gd v10 false (ret1 (fieldAddrS tab 43 v5 0) o10) o10) fun v11 o11 =>
 bd (gd v10 false (ret1 (loadS tab o11 3 v11) o11) o11) fun v12 o12 =>
 bd (gd v10 false (some (x0, o12)) o12) fun v13 o13 =>
 bd (gd v10 false (ret1 (binS tab .eql 3 v12 v13) o13) o13) fun v14 o14 =>
 bd (ret1 (pickS v10 (SV.v (.bool true)) v14) o14) fun v15 o15 =>
 bd (gd v15 false (ret1 (fieldAddrS tab 43 v5 1) o15) o15) fun v16 o16 =>
 bd (gd v15 false (ret1 (loadS tab o16 3 v16) o16) o16) fun v17 o17 =>
 bd (gd v15 false (callS ⟨tab, ownF, K⟩ o17 77 [v17, (SV.v (.int .i64 1)), (SV.v (.int .i64 5))]) o17) fun v18 o18 =>
 bd (gd v15 false (ret1 (unS .not v18) o18) o18) fun v19 o19 =>
 bd (ret1 (pickS v15 (SV.v (.bool true)) v19) o19) fun v20 o20 =>
 bd (gd v20 false (some (x5, o20)) o20) fun v21 o21 =>
 bd (gd v20 false (ret1 (binS tab .gtr 3 v21 (SV.v (.int .i64 0))) o21) o21) fun v22 o22 =>
 bd (gd v20 false (some (v22, o22)) o22) fun v23 o23 =>
 bd (gd v23 true (some (x1, o23)) o23) fun v24 o24 =>
 bd (gd v23 true (some (x5, o24)) o24) fun v25 o25 =>
 bd (gd v23 true (ret1 (binS tab .sub 3 v25 (SV.v (.int .i64 1))) o25) o25) fun v26 o26 =>
 bd (gd v23 true (ret1 (indexAddrS tab o26 27 v24 v26) o26) o26) fun v27 o27 =>
 bd (gd v23 true (ret1 (fieldAddrS tab 43 v27 0) o27) o27) fun v28 o28 =>
 bd (gd v23 true (ret1 (loadS tab o28 3 v28) o28) o28) fun v29 o29 =>
 bd (gd v23 true (ret1 (fieldAddrS tab 43 v5 0) o29) o29) fun v30 o30 =>
 bd (gd v23 true (ret1 (loadS tab o30 3 v30) o30) o30) fun v31 o31 =>
 bd (gd v23 true (ret1 (binS tab .geq 3 v29 v31) o31) o31) fun v32 o32 =>
 bd (gd v20 false (ret1 (pickS v23 v32 (SV.v (.bool false))) o32) o32) fun v33 o33 =>
 bd (ret1 (pickS v20 (SV.v (.bool true)) v33) o33) fun v34 o34 =>
 condS v34 (retV tab nl o34 (resC1 (some (SV.v (.bool false))) (some [])))
 (bd (ret1 (binS tab .add 3 x5 (SV.v (.int .i64 1))) o34) fun v35 o35 =>
 L112_2 K N nl m2 x0 x1 v35 o35))
 (bd (lenO tab 27 o2 x1) fun v36 o36 =>
 bd (ret1 (binS tab .leq 3 v36 (SV.v (.int .i64 2))) o36) fun v37 o37 =>
 retV tab nl o37 (resC1 (some v37) (some [])))
noncomputable def X112 (K : Nat → List SV → List SO → Out) (N nl : Nat) (x0 x1 : SV) (os : List SO) : Out := exec (cx K) N nl fi112 c112 [(0, x0), (1, x1)] os (kEnd tab nl rs112)
noncomputable def B112 (K : Nat → List SV → List SO → Out) (N nl : Nat) (x0 x1 : SV) (os : List SO) : Out :=
 L112_2 K N nl N x0 x1 (SV.v (.int .i64 0)) os
noncomputable def X113 (K : Nat → List SV → List SO → Out) (N nl : Nat) (x0 : SV) (os : List SO) : Out := exec (cx K) N nl fi113 c113 [(0, x0)] os (kEnd tab nl rs113)
noncomputable def B113 (K : Nat → List SV → List SO → Out) (N nl : Nat) (x0 : SV) (os : List SO) : Out :=
 bd (boxS tab os 122 (some x0)) fun v1 o1 =>
 bd (allocS tab o1 47) fun v2 o2 =>
 bd (allocS tab o2 47) fun v3 o3 =>
 bd (ret1 (fieldAddrS tab 122 v1 0) o3) fun v4 o4 =>
 bd (ret1 (loadS tab o4 3 v4) o4) fun v5 o5 =>
 bd (ret1 (fieldAddrS tab 47 v3 0) o5) fun v6 o6 =>
 bd (storeO tab o6 3 v6 (some v5)) fun v7 o7 =>
 bd (ret1 (fieldAddrS tab 122 v1 1) o7) fun v8 o8 =>
 bd (ret1 (loadS tab o8 3 v8) o8) fun v9 o9 =>
 bd (ret1 (fieldAddrS tab 47 v3 1) o9) fun v10 o10 =>
 bd (storeO tab o10 3 v10 (some v9)) fun v11 o11 =>
 bd (ret1 (loadS tab o11 47 v3) o11) fun v12 o12 =>
 bd (storeO tab o12 47 v2 (some v12)) fun v13 o13 =>
 retV tab nl o13 (resC1 (loadS tab o13 47 v2) (some []))
noncomputable def X114 (K : Nat → List SV → List SO → Out) (N nl : Nat) (x0 : SV) (os : List SO) : Out := exec (cx K) N nl fi114 c114 [(0, x0)] os (kEnd tab nl rs114)
noncomputable def B114 (K : Nat → List SV → List SO → Out) (N nl : Nat) (x0 : SV) (os : List SO) : Out :=
 bd (boxS tab os 124 (some x0)) fun v1 o1 =>
 bd (allocS tab o1 43) fun v2 o2 =>
 bd (allocS tab o2 43) fun v3 o3 =>
 bd (ret1 (fieldAddrS tab 124 v1 0) o3) fun v4 o4 =>
 bd (ret1 (loadS tab o4 3 v4) o4) fun v5 o5 =>
 bd (ret1 (fieldAddrS tab 43 v3 0) o5) fun v6 o6 =>
 bd (storeO tab o6 3 v6 (some v5)) fun v7 o7 =>
 bd (ret1 (fieldAddrS tab 124 v1 1) o7) fun v8 o8 =>
 bd (ret1 (loadS tab o8 3 v8) o8) fun v9 o9 =>
 bd (ret1 (fieldAddrS tab 43 v3 1) o9) fun v10 o10 =>
 bd (storeO tab o10 3 v10 (some v9)) fun v11 o11 =>
 bd (ret1 (loadS tab o11 43 v3) o11) fun v12 o12 =>
 bd (storeO tab o12 43 v2 (some v12)) fun v13 o13 =>
 retV tab nl o13 (resC1 (loadS tab o13 43 v2) (some []))
noncomputable def bk115_2 (K : Nat → List SV → List SO → Out) (N nl : Nat) (m2 : Nat) : Env → List SO → Out := fun env os => loopS nl (fi115.lp 2) (fun env os nx => exec (cx K) N nl fi115 (subC c115 [1, 0, 1, 0, 0]) env os (kLoop nx (kBlock 0 (kSeq (exec (cx K) N nl fi115 (subC c115 [1, 1])) (fi115.jn 7) (kEnd tab nl rs115))))) m2 (killS (fi115.lp 2).alive env) os
noncomputable def L115_2 (K : Nat → List SV → List SO → Out) (N nl : Nat) (m2 : Nat) (x0 x1 x7 x8 : SV) (os : List SO) : Out := loopS nl (fi115.lp 2) (fun env os nx => exec (cx K) N nl fi115 (subC c115 [1, 0, 1, 0, 0]) env os (kLoop nx (kBlock 0 (kSeq (exec (cx K) N nl fi115 (subC c115 [1, 1])) (fi115.jn 7) (kEnd tab nl rs115))))) m2 [(0, x0), (1, x1), (7, x7), (8, x8)] os
noncomputable def LB115_2 (K : Nat → List SV → List SO → Out) (N nl : Nat) (m2 : Nat) (x0 x1 x7 x8 : SV) (os : List SO) : Out :=
 bd (ret1 (binS tab .lss 3 x8 x7) os) fun v2 o2 =>
 condS v2 (bd (ret1 (indexAddrS tab o2 23 x0 x8) o2) fun v3 o3 =>
 bd (ret1 (loadS tab o3 29 v3) o3) fun v4 o4 =>
 bd (calleeS ⟨tab, ownF, K⟩ o4 x1 [v4]) fun v5 o5 =>
 condS v5 (retV tab nl o5 (resC1 (some x8) (some [])))
 (bd (ret1 (binS tab .add 3 x8 (SV.v (.int .i64 1))) o5) fun v6 o6 =>
 L115_2 K N nl m2 x0 x1 x7 v6 o6))
 (retV tab nl o2 (resC1 (some (SV.v (.int .i64 (-1)))) (some [])))
noncomputable def X115 (K : Nat → List SV → List SO → Out) (N nl : Nat) (x0 x1 : SV) (os : List SO) : Out := exec (cx K) N nl fi115 c115 [(0, x0), (1, x1)] os (kEnd tab nl rs115)
noncomputable def B115 (K : Nat → List SV → List SO → Out) (N nl : Nat) (x0 x1 : SV) (os : List SO) : Out :=
 bd (lenO tab 23 os x0) fun v1 o1 =>
 L115_2 K N nl N x0 x1 v1 (SV.v (.int .i64 0)) o1
noncomputable def X116 (K : Nat → List SV → List SO → Out) (N nl : Nat) (x0 x1 : SV) (os : List SO) : Out := exec (cx K) N nl fi116 c116 [(0, x0), (1, x1)] os (kEnd tab nl rs116)
noncomputable def B116 (K : Nat → List SV → List SO → Out) (N nl : Nat) (x0 x1 : SV) (os : List SO) : Out :=
 bd (callS ⟨tab, ownF, K⟩ os 52 [x0, x1]) fun v1 o1 =>
 bd (ret1 (extractS v1 0) o1) fun v2 o2 =>
 bd (ret1 (extractS v1 1) o2) fun v3 o3 =>
 bd (allocS tab o3 29) fun v4 o4 =>
 bd (storeO tab o4 29 v4 (some v2)) fun v5 o5 =>
 retV tab nl o5 (resC1 (some v3) (some []))
noncomputable def X117 (K : Nat → List SV → List SO → Out) (N nl : Nat) (x0 x1 x2 : SV) (os : List SO) : Out := exec (cx K) N nl fi117 c117 [(0, x0), (1, x1), (2, x2)] os (kEnd tab nl rs117)
noncomputable def B117 (K : Nat → List SV → List SO → Out) (N nl : Nat) (x0 x1 x2 : SV) (os : List SO) : Out :=
 bd (allocS tab os 29) fun v1 o1 =>
 bd (callS ⟨tab, ownF, K⟩ o1 52 [x0, x2]) fun v2 o2 =>
 bd (ret1 (extractS v2 0) o2) fun v3 o3 =>
 bd (ret1 (extractS v2 1) o3) fun v4 o4 =>
 bd (allocS tab o4 29) fun v5 o5 =>
 bd (storeO tab o5 29 v5 (some v3)) fun v6 o6 =>
 bd (callS ⟨tab, ownF, K⟩ o6 52 [x1, x2]) fun v7 o7 =>
 bd (ret1 (extractS v7 0) o7) fun v8 o8 =>
 bd (ret1 (extractS v7 1) o8) fun v9 o9 =>
 bd (allocS tab o9 29) fun v10 o10 =>
 bd (storeO tab o10 29 v10 (some v8)) fun v11 o11 =>
 bd (gd v4 true (some (v9, o11)) o11) fun v12 o12 =>
 bd (gd v4 true (ret1 (unS .not v12) o12) o12) fun v13 o13 =>
 bd (gd v4 true (some (v13, o13)) o13) fun v14 o14 =>
 bd (gd v14 false (ret1 (fieldAddrS tab 29 v5 1) o14) o14) fun v15 o15 =>
 bd (gd v14 false (ret1 (loadS tab o15 3 v15) o15) o15) fun v16 o16 =>
 bd (gd v14 false (ret1 (fieldAddrS tab 29 v10 1) o16) o16) fun v17 o17 =>
 bd (gd v14 false (ret1 (loadS tab o17 3 v17) o17) o17) fun v18 o18 =>
 bd (gd v14 false (ret1 (binS tab .gtr 3 v16 v18) o18) o18) fun v19 o19 =>
 bd (gd v4 true (ret1 (pickS v14 (SV.v (.bool true)) v19) o19) o19) fun v20 o20 =>
 bd (ret1 (pickS v4 v20 (SV.v (.bool false))) o20) fun v21 o21 =>
 condS v21 (bd (ret1 (loadS tab o21 29 v5) o21) fun v22 o22 =>
 bd (storeO tab o22 29 v1 (some v22)) fun v23 o23 =>
 retV tab nl o23 (resC1 (loadS tab o23 29 v1) (resC1 (some (SV.v (.bool true))) (some []))))
 (bd (ret1 (loadS tab o21 29 v10) o21) fun v24 o24 =>
 bd (storeO tab o24 29 v1 (some v24)) fun v25 o25 =>
 retV tab nl o25 (resC1 (loadS tab o25 29 v1) (resC1 (some v9) (some []))))
noncomputable def X118 (K : Nat → List SV → List SO → Out) (N nl : Nat) (x0 x1 : SV) (os : List SO) : Out := exec (cx K) N nl fi118 c118 [(0, x0), (1, x1)] os (kEnd tab nl rs118)
noncomputable def B118 (K : Nat → List SV → List SO → Out) (N nl : Nat) (x0 x1 : SV) (os : List SO) : Out :=
 bd (convS tab os 129 132 x0) fun v1 o1 =>
 bd (convS tab o1 129 132 x1) fun v2 o2 =>
 bd (ret1 (binS tab .mul 132 v1 v2) o2) fun v3 o3 =>
 bd (ret1 (binS tab .shr 132 v3 (SV.v (.int .u64 32))) o3) fun v4 o4 =>
 bd (convS tab o4 132 129 v4) fun v5 o5 =>
 bd (convS tab o5 132 129 v3) fun v6 o6 =>
 retV tab nl o6 (resC1 (some v5) (resC1 (some v6) (some [])))
noncomputable def X119 (K : Nat → List SV → List SO → Out) (N nl : Nat) (x0 x1 : SV) (os : List SO) : Out := exec (cx K) N nl fi119 c119 [(0, x0), (1, x1)] os (kEnd tab nl rs119)
noncomputable def B119 (K : Nat → List SV → List SO → Out) (N nl : Nat) (x0 x1 : SV) (os : List SO) : Out :=
 bd (ret1 (binS tab .and 132 x0 (SV.v (.int .u64 4294967295))) os) fun v1 o1 =>
 bd (ret1 (binS tab .shr 132 x0 (SV.v (.int .u64 32))) o1) fun v2 o2 =>
 bd (ret1 (binS tab .and 132 x1 (SV.v (.int .u64 4294967295))) o2) fun v3 o3 =>
 bd (ret1 (binS tab .shr 132 x1 (SV.v (.int .u64 32))) o3) fun v4 o4 =>
 bd (ret1 (binS tab .mul 132 v1 v3) o4) fun v5 o5 =>
 bd (ret1 (binS tab .mul 132 v2 v3) o5) fun v6 o6 =>
 bd (ret1 (binS tab .shr 132 v5 (SV.v (.int .u64 32))) o6) fun v7 o7 =>
 bd (ret1 (binS tab .add 132 v6 v7) o7) fun v8 o8 =>
 bd (ret1 (binS tab .and 132 v8 (SV.v (.int .u64 4294967295))) o8) fun v9 o9 =>
 bd (ret1 (binS tab .shr 132 v8 (SV.v (.int .u64 32))) o9) fun v10 o10 =>
 bd (ret1 (binS tab .mul 132 v1 v4) o10) fun v11 o11 =>
 bd (ret1 (binS tab .add 132 v9 v11) o11) fun v12 o12 =>
 bd (ret1 (binS tab .mul 132 v2 v4) o12) fun v13 o13 =>
 bd (ret1 (binS tab .add 132 v13 v10) o13) fun v14 o14 =>
 bd (ret1 (binS tab .shr 132 v12 (SV.v (.int .u64 32))) o14) fun v15 o15 =>
 bd (ret1 (binS tab .add 132 v14 v15) o15) fun v16 o16 =>
 bd (ret1 (binS tab .mul 132 x0 x1) o16) fun v17 o17 =>
 retV tab nl o17 (resC1 (some v16) (resC1 (some v17) (some [])))
noncomputable def X120 (K : Nat → List SV → List SO → Out) (N nl : Nat) (x0 : SV) (os : List SO) : Out := exec (cx K) N nl fi120 c120 [(0, x0)] os (kEnd tab nl rs120)
noncomputable def B120 (K : Nat → List SV → List SO → Out) (N nl : Nat) (x0 : SV) (os : List SO) : Out :=
 bd (ret1 (binS tab .neq 3 x0 x0) os) fun v1 o1 =>
 retV tab nl o1 (resC1 (some v1) (some []))
theorem L3_10_s (K : Nat → List SV → List SO → Out) (N nl : Nat) (m10 : Nat) (x3 x4 x7 x9 x10 : SV) (os : List SO) : L3_10 K N nl (m10 + 1) x3 x4 x7 x9 x10 os = gcB nl [x3, x4, x7, x9, x10] os fun xs os => G3_10 K N nl m10 xs os := by kernel_rfl
theorem UL3_10 {nl c : Nat} {Q : SV → List SO → Prop} {x3 x4 x7 x9 x10 : SV} {os : List SO} (h : Ev (fun n => gcB nl [x3, x4, x7, x9, x10] os fun xs os => G3_10 (callF prg n) (n + 1) nl (n + 1 - (c + 1)) xs os) Q) : Ev (fun n => L3_10 (callF prg n) (n + 1) nl (n + 1 - c) x3 x4 x7 x9 x10 os) Q := ev_loop (L := fun n m => L3_10 (callF prg n) (n + 1) nl m x3 x4 x7 x9 x10 os) (fun n m => L3_10_s _ _ _ _ _ _ _ _ _ _) h
theorem VL3_10 {nl : Nat} {Q : SV → List SO → Prop} {x3 x4 x7 x9 x10 : SV} {os : List SO} (h : Ev (fun n => gcB nl [x3, x4, x7, x9, x10] os fun xs os => G3_10 (callF prg n) (n + 1) nl (n + 1 - 1) xs os) Q) : Ev (fun n => L3_10 (callF prg n) (n + 1) nl (n + 1) x3 x4 x7 x9 x10 os) Q := UL3_10 (c := 0) h
theorem G3_10_s (K : Nat → List SV → List SO → Out) (N nl : Nat) (m10 : Nat) (x3 x4 x7 x9 x10 : SV) (os : List SO) : G3_10 K N nl m10 [x3, x4, x7, x9, x10] os = GB3_10 K N nl m10 x3 x4 x7 x9 x10 os := by kernel_rfl
theorem UG3_10 {nl : Nat} {Q : SV → List SO → Prop} (m10 : Nat → Nat) {x3 x4 x7 x9 x10 : SV} {os : List SO} (h : Ev (fun n => GB3_10 (callF prg n) (n + 1) nl (m10 n) x3 x4 x7 x9 x10 os) Q) : Ev (fun n => G3_10 (callF prg n) (n + 1) nl (m10 n) [x3, x4, x7, x9, x10] os) Q := ev_eq (fun n => G3_10_s _ _ _ _ _ _ _ _ _ _) h
theorem J3_11_s (K : Nat → List SV → List SO → Out) (N nl : Nat) (m10 : Nat) (x3 x4 x7 x9 x10 : SV) (os : List SO) : J3_11 K N nl m10 x3 x4 x7 x9 x10 os = JB3_11 K N nl m10 x3 x4 x7 x9 x10 os := by kernel_rfl
theorem UJ3_11 {nl : Nat} {Q : SV → List SO → Prop} {m10 : Nat → Nat} {x3 x4 x7 x9 x10 : SV} {os : List SO} (h : Ev (fun n => JB3_11 (callF prg n) (n + 1) nl (m10 n) x3 x4 x7 x9 x10 os) Q) : Ev (fun n => J3_11 (callF prg n) (n + 1) nl (m10 n) x3 x4 x7 x9 x10 os) Q := ev_eq (fun n => J3_11_s _ _ _ _ _ _ _ _ _ _) h
theorem X3_s (K : Nat → List SV → List SO → Out) (N nl : Nat) (x0 : SV) (os : List SO) : X3 K N nl x0 os = B3 K N nl x0 os := by kernel_rfl
theorem E3 (n : Nat) (x0 : SV) (os : List SO) : callF prg (n + 1) 3 [x0] os = X3 (callF prg n) (n + 1) os.length x0 os := by kernel_rfl
theorem U3 {Q : SV → List SO → Prop} {x0 : SV} {os : List SO} {nl : Nat} (hnl : os.length = nl) (h : Ev (fun n => B3 (callF prg n) (n + 1) nl x0 os) Q) : Ev (fun n => callF prg n 3 [x0] os) Q := by subst hnl; exact ev_fun (fun n => (E3 n _ _).trans (X3_s _ _ _ _ _)) h
theorem L4_10_s (K : Nat → List SV → List SO → Out) (N nl : Nat) (m10 : Nat) (x3 x4 x7 x8 x9 x10 : SV) (os : List SO) : L4_10 K N nl (m10 + 1) x3 x4 x7 x8 x9 x10 os = LB4_10 K N nl m10 x3 x4 x7 x8 x9 x10 os := by kernel_rfl
theorem UL4_10 {nl c : Nat} {Q : SV → List SO → Prop} {x3 x4 x7 x8 x9 x10 : SV} {os : List SO} (h : Ev (fun n => LB4_10 (callF prg n) (n + 1) nl (n + 1 - (c + 1)) x3 x4 x7 x8 x9 x10 os) Q) : Ev (fun n => L4_10 (callF prg n) (n + 1) nl (n + 1 - c) x3 x4 x7 x8 x9 x10 os) Q := ev_loop (L := fun n m => L4_10 (callF prg n) (n + 1) nl m x3 x4 x7 x8 x9 x10 os) (fun n m => L4_10_s _ _ _ _ _ _ _ _ _ _ _) h
theorem VL4_10 {nl : Nat} {Q : SV → List SO → Prop} {x3 x4 x7 x8 x9 x10 : SV} {os : List SO} (h : Ev (fun n => LB4_10 (callF prg n) (n + 1) nl (n + 1 - 1) x3 x4 x7 x8 x9 x10 os) Q) : Ev (fun n => L4_10 (callF prg n) (n + 1) nl (n + 1) x3 x4 x7 x8 x9 x10 os) Q := UL4_10 (c := 0) h
theorem X4_s (K : Nat → List SV → List SO → Out) (N nl : Nat) (x0 : SV) (os : List SO) : X4 K N nl x0 os = B4 K N nl x0 os := by kernel_rfl
theorem E4 (n : Nat) (x0 : SV) (os : List SO) : callF prg (n + 1) 4 [x0] os = X4 (callF prg n) (n + 1) os.length x0 os := by kernel_rfl
theorem U4 {Q : SV → List SO → Prop} {x0 : SV} {os : List SO} {nl : Nat} (hnl : os.length = nl) (h : Ev (fun n => B4 (callF prg n) (n + 1) nl x0 os) Q) : Ev (fun n => callF prg n 4 [x0] os) Q := by subst hnl; exact ev_fun (fun n => (E4 n _ _).trans (X4_s _ _ _ _ _)) h
theorem X5_s (K : Nat → List SV → List SO → Out) (N nl : Nat) (x0 : SV) (os : List SO) : X5 K N nl x0 os = B5 K N nl x0 os := by kernel_rfl
theorem E5 (n : Nat) (x0 : SV) (os : List SO) : callF prg (n + 1) 5 [x0] os = X5 (callF prg n) (n + 1) os.length x0 os := by kernel_rfl
theorem U5 {Q : SV → List SO → Prop} {x0 : SV} {os : List SO} {nl : Nat} (hnl : os.length = nl) (h : Ev (fun n => B5 (callF prg n) (n + 1) nl x0 os) Q) : Ev (fun n => callF prg n 5 [x0] os) Q := by subst hnl; exact ev_fun (fun n => (E5 n _ _).trans (X5_s _ _ _ _ _)) h
theorem L6_10_s (K : Nat → List SV → List SO → Out) (N nl : Nat) (m10 : Nat) (x5 x7 x8 x9 : SV) (os : List SO) : L6_10 K N nl (m10 + 1) x5 x7 x8 x9 os = LB6_10 K N nl m10 x5 x7 x8 x9 os := by kernel_rfl
theorem UL6_10 {nl c : Nat} {Q : SV → List SO → Prop} {x5 x7 x8 x9 : SV} {os : List SO} (h : Ev (fun n => LB6_10 (callF prg n) (n + 1) nl (n + 1 - (c + 1)) x5 x7 x8 x9 os) Q) : Ev (fun n => L6_10 (callF prg n) (n + 1) nl (n + 1 - c) x5 x7 x8 x9 os) Q := ev_loop (L := fun n m => L6_10 (callF prg n) (n + 1) nl m x5 x7 x8 x9 os) (fun n m => L6_10_s _ _ _ _ _ _ _ _ _) h
theorem VL6_10 {nl : Nat} {Q : SV → List SO → Prop} {x5 x7 x8 x9 : SV} {os : List SO} (h : Ev (fun n => LB6_10 (callF prg n) (n + 1) nl (n + 1 - 1) x5 x7 x8 x9 os) Q) : Ev (fun n => L6_10 (callF prg n) (n + 1) nl (n + 1) x5 x7 x8 x9 os) Q := UL6_10 (c := 0) h
theorem L6_13_s (K : Nat → List SV → List SO → Out) (N nl : Nat) (m10 : Nat) (m13 : Nat) (x5 x7 x8 x9 x10 : SV) (os : List SO) : L6_13 K N nl m10 (m13 + 1) x5 x7 x8 x9 x10 os = LB6_13 K N nl m10 m13 x5 x7 x8 x9 x10 os := by kernel_rfl
theorem UL6_13 {nl c : Nat} {Q : SV → List SO → Prop} {m10 : Nat → Nat} {x5 x7 x8 x9 x10 : SV} {os : List SO} (h : Ev (fun n => LB6_13 (callF prg n) (n + 1) nl (m10 n) (n + 1 - (c + 1)) x5 x7 x8 x9 x10 os) Q) : Ev (fun n => L6_13 (callF prg n) (n + 1) nl (m10 n) (n + 1 - c) x5 x7 x8 x9 x10 os) Q := ev_loop (L := fun n m => L6_13 (callF prg n) (n + 1) nl (m10 n) m x5 x7 x8 x9 x10 os) (fun n m => L6_13_s _ _ _ _ _ _ _ _ _ _ _) h
theorem VL6_13 {nl : Nat} {Q : SV → List SO → Prop} {m10 : Nat → Nat} {x5 x7 x8 x9 x10 : SV} {os : List SO} (h : Ev (fun n => LB6_13 (callF prg n) (n + 1) nl (m10 n) (n + 1 - 1) x5 x7 x8 x9 x10 os) Q) : Ev (fun n => L6_13 (callF prg n) (n + 1) nl (m10 n) (n + 1) x5 x7 x8 x9 x10 os) Q := UL6_13 (c := 0) h
theorem J6_17_s (K : Nat → List SV → List SO → Out) (N nl : Nat) (x8 x11 : SV) (os : List SO) : J6_17 K N nl x8 x11 os = JB6_17 K N nl x8 x11 os := by kernel_rfl
theorem UJ6_17 {nl : Nat} {Q : SV → List SO → Prop} {x8 x11 : SV} {os : List SO} (h : Ev (fun n => JB6_17 (callF prg n) (n + 1) nl x8 x11 os) Q) : Ev (fun n => J6_17 (callF prg n) (n + 1) nl x8 x11 os) Q := ev_eq (fun n => J6_17_s _ _ _ _ _ _) h
theorem X6_s (K : Nat → List SV → List SO → Out) (N nl : Nat) (x0 x1 : SV) (os : List SO) : X6 K N nl x0 x1 os = B6 K N nl x0 x1 os := by kernel_rfl
theorem E6 (n : Nat) (x0 x1 : SV) (os : List SO) : callF prg (n + 1) 6 [x0, x1] os = X6 (callF prg n) (n + 1) os.length x0 x1 os := by kernel_rfl
theorem U6 {Q : SV → List SO → Prop} {x0 x1 : SV} {os : List SO} {nl : Nat} (hnl : os.length = nl) (h : Ev (fun n => B6 (callF prg n) (n + 1) nl x0 x1 os) Q) : Ev (fun n => callF prg n 6 [x0, x1] os) Q := by subst hnl; exact ev_fun (fun n => (E6 n _ _ _).trans (X6_s _ _ _ _ _ _)) h
theorem L7_9_s (K : Nat → List SV → List SO → Out) (N nl : Nat) (m9 : Nat) (x3 x5 x6 : SV) (os : List SO) : L7_9 K N nl (m9 + 1) x3 x5 x6 os = gcB nl [x3, x5, x6] os fun xs os => G7_9 K N nl m9 xs os := by kernel_rfl
theorem UL7_9 {nl c : Nat} {Q : SV → List SO → Prop} {x3 x5 x6 : SV} {os : List SO} (h : Ev (fun n => gcB nl [x3, x5, x6] os fun xs os => G7_9 (callF prg n) (n + 1) nl (n + 1 - (c + 1)) xs os) Q) : Ev (fun n => L7_9 (callF prg n) (n + 1) nl (n + 1 - c) x3 x5 x6 os) Q := ev_loop (L := fun n m => L7_9 (callF prg n) (n + 1) nl m x3 x5 x6 os) (fun n m => L7_9_s _ _ _ _ _ _ _ _) h
theorem VL7_9 {nl : Nat} {Q : SV → List SO → Prop} {x3 x5 x6 : SV} {os : List SO} (h : Ev (fun n => gcB nl [x3, x5, x6] os fun xs os => G7_9 (callF prg n) (n + 1) nl (n + 1 - 1) xs os) Q) : Ev (fun n => L7_9 (callF prg n) (n + 1) nl (n + 1) x3 x5 x6 os) Q := UL7_9 (c := 0) h
theorem G7_9_s (K : Nat → List SV → List SO → Out) (N nl : Nat) (m9 : Nat) (x3 x5 x6 : SV) (os : List SO) : G7_9 K N nl m9 [x3, x5, x6] os = GB7_9 K N nl m9 x3 x5 x6 os := by kernel_rfl
theorem UG7_9 {nl : Nat} {Q : SV → List SO → Prop} (m9 : Nat → Nat) {x3 x5 x6 : SV} {os : List SO} (h : Ev (fun n => GB7_9 (callF prg n) (n + 1) nl (m9 n) x3 x5 x6 os) Q) : Ev (fun n => G7_9 (callF prg n) (n + 1) nl (m9 n) [x3, x5, x6] os) Q := ev_eq (fun n => G7_9_s _ _ _ _ _ _ _ _) h
theorem L7_14_s (K : Nat → List SV → List SO → Out) (N nl : Nat) (m9 : Nat) (m14 : Nat) (x3 x5 x6 x7 : SV) (os : List SO) : L7_14 K N nl m9 (m14 + 1) x3 x5 x6 x7 os = gcB nl [x3, x5, x6, x7] os fun xs os => G7_14 K N nl m9 m14 xs os := by kernel_rfl
theorem UL7_14 {nl c : Nat} {Q : SV → List SO → Prop} {m9 : Nat → Nat} {x3 x5 x6 x7 : SV} {os : List SO} (h : Ev (fun n => gcB nl [x3, x5, x6, x7] os fun xs os => G7_14 (callF prg n) (n + 1) nl (m9 n) (n + 1 - (c + 1)) xs os) Q) : Ev (fun n => L7_14 (callF prg n) (n + 1) nl (m9 n) (n + 1 - c) x3 x5 x6 x7 os) Q := ev_loop (L := fun n m => L7_14 (callF prg n) (n + 1) nl (m9 n) m x3 x5 x6 x7 os) (fun n m => L7_14_s _ _ _ _ _ _ _ _ _ _) h
theorem VL7_14 {nl : Nat} {Q : SV → List SO → Prop} {m9 : Nat → Nat} {x3 x5 x6 x7 : SV} {os : List SO} (h : Ev (fun n => gcB nl [x3, x5, x6, x7] os fun xs os => G7_14 (callF prg n) (n + 1) nl (m9 n) (n + 1 - 1) xs os) Q) : Ev (fun n => L7_14 (callF prg n) (n + 1) nl (m9 n) (n + 1) x3 x5 x6 x7 os) Q := UL7_14 (c := 0) h
theorem G7_14_s (K : Nat → List SV → List SO → Out) (N nl : Nat) (m9 : Nat) (m14 : Nat) (x3 x5 x6 x7 : SV) (os : List SO) : G7_14 K N nl m9 m14 [x3, x5, x6, x7] os = GB7_14 K N nl m9 m14 x3 x5 x6 x7 os := by kernel_rfl
theorem UG7_14 {nl : Nat} {Q : SV → List SO → Prop} {m9 : Nat → Nat} (m14 : Nat → Nat) {x3 x5 x6 x7 : SV} {os : List SO} (h : Ev (fun n => GB7_14 (callF prg n) (n + 1) nl (m9 n) (m14 n) x3 x5 x6 x7 os) Q) : Ev (fun n => G7_14 (callF prg n) (n + 1) nl (m9 n) (m14 n) [x3, x5, x6, x7] os) Q := ev_eq (fun n => G7_14_s _ _ _ _ _ _ _ _ _ _) h
theorem L7_20_s (K : Nat → List SV → List SO → Out) (N nl : Nat) (m9 : Nat) (m20 : Nat) (x3 x5 x6 x10 : SV) (os : List SO) : L7_20 K N nl m9 (m20 + 1) x3 x5 x6 x10 os = LB7_20 K N nl m9 m20 x3 x5 x6 x10 os := by kernel_rfl
theorem UL7_20 {nl c : Nat} {Q : SV → List SO → Prop} {m9 : Nat → Nat} {x3 x5 x6 x10 : SV} {os : List SO} (h : Ev (fun n => LB7_20 (callF prg n) (n + 1) nl (m9 n) (n + 1 - (c + 1)) x3 x5 x6 x10 os) Q) : Ev (fun n => L7_20 (callF prg n) (n + 1) nl (m9 n) (n + 1 - c) x3 x5 x6 x10 os) Q := ev_loop (L := fun n m => L7_20 (callF prg n) (n + 1) nl (m9 n) m x3 x5 x6 x10 os) (fun n m => L7_20_s _ _ _ _ _ _ _ _ _ _) h
theorem VL7_20 {nl : Nat} {Q : SV → List SO → Prop} {m9 : Nat → Nat} {x3 x5 x6 x10 : SV} {os : List SO} (h : Ev (fun n => LB7_20 (callF prg n) (n + 1) nl (m9 n) (n + 1 - 1) x3 x5 x6 x10 os) Q) : Ev (fun n => L7_20 (callF prg n) (n + 1) nl (m9 n) (n + 1) x3 x5 x6 x10 os) Q := UL7_20 (c := 0) h
theorem X7_s (K : Nat → List SV → List SO → Out) (N nl : Nat) (x0 : SV) (os : List SO) : X7 K N nl x0 os = B7 K N nl x0 os := by kernel_rfl
theorem E7 (n : Nat) (x0 : SV) (os : List SO) : callF prg (n + 1) 7 [x0] os = X7 (callF prg n) (n + 1) os.length x0 os := by kernel_rfl
theorem U7 {Q : SV → List SO → Prop} {x0 : SV} {os : List SO} {nl : Nat} (hnl : os.length = nl) (h : Ev (fun n => B7 (callF prg n) (n + 1) nl x0 os) Q) : Ev (fun n => callF prg n 7 [x0] os) Q := by subst hnl; exact ev_fun (fun n => (E7 n _ _).trans (X7_s _ _ _ _ _)) h
theorem X8_s (K : Nat → List SV → List SO → Out) (N nl : Nat) (x0 x1 : SV) (os : List SO) : X8 K N nl x0 x1 os = B8 K N nl x0 x1 os := by kernel_rfl
theorem E8 (n : Nat) (x0 x1 : SV) (os : List SO) : callF prg (n + 1) 8 [x0, x1] os = X8 (callF prg n) (n + 1) os.length x0 x1 os := by kernel_rfl
theorem U8 {Q : SV → List SO → Prop} {x0 x1 : SV} {os : List SO} {nl : Nat} (hnl : os.length = nl) (h : Ev (fun n => B8 (callF prg n) (n + 1) nl x0 x1 os) Q) : Ev (fun n => callF prg n 8 [x0, x1] os) Q := by subst hnl; exact ev_fun (fun n => (E8 n _ _ _).trans (X8_s _ _ _ _ _ _)) h
theorem L9_9_s (K : Nat → List SV → List SO → Out) (N nl : Nat) (m9 : Nat) (x3 x4 x5 x6 : SV) (os : List SO) : L9_9 K N nl (m9 + 1) x3 x4 x5 x6 os = LB9_9 K N nl m9 x3 x4 x5 x6 os := by kernel_rfl
theorem UL9_9 {nl c : Nat} {Q : SV → List SO → Prop} {x3 x4 x5 x6 : SV} {os : List SO} (h : Ev (fun n => LB9_9 (callF prg n) (n + 1) nl (n + 1 - (c + 1)) x3 x4 x5 x6 os) Q) : Ev (fun n => L9_9 (callF prg n) (n + 1) nl (n + 1 - c) x3 x4 x5 x6 os) Q := ev_loop (L := fun n m => L9_9 (callF prg n) (n + 1) nl m x3 x4 x5 x6 os) (fun n m => L9_9_s _ _ _ _ _ _ _ _ _) h
theorem VL9_9 {nl : Nat} {Q : SV → List SO → Prop} {x3 x4 x5 x6 : SV} {os : List SO} (h : Ev (fun n => LB9_9 (callF prg n) (n + 1) nl (n + 1 - 1) x3 x4 x5 x6 os) Q) : Ev (fun n => L9_9 (callF prg n) (n + 1) nl (n + 1) x3 x4 x5 x6 os) Q := UL9_9 (c := 0) h
theorem L9_12_s (K : Nat → List SV → List SO → Out) (N nl : Nat) (m9 : Nat) (m12 : Nat) (x3 x4 x5 x6 x7 : SV) (os : List SO) : L9_12 K N nl m9 (m12 + 1) x3 x4 x5 x6 x7 os = LB9_12 K N nl m9 m12 x3 x4 x5 x6 x7 os := by kernel_rfl
theorem UL9_12 {nl c : Nat} {Q : SV → List SO → Prop} {m9 : Nat → Nat} {x3 x4 x5 x6 x7 : SV} {os : List SO} (h : Ev (fun n => LB9_12 (callF prg n) (n + 1) nl (m9 n) (n + 1 - (c + 1)) x3 x4 x5 x6 x7 os) Q) : Ev (fun n => L9_12 (callF prg n) (n + 1) nl (m9 n) (n + 1 - c) x3 x4 x5 x6 x7 os) Q := ev_loop (L := fun n m => L9_12 (callF prg n) (n + 1) nl (m9 n) m x3 x4 x5 x6 x7 os) (fun n m => L9_12_s _ _ _ _ _ _ _ _ _ _ _) h
theorem VL9_12 {nl : Nat} {Q : SV → List SO → Prop} {m9 : Nat → Nat} {x3 x4 x5 x6 x7 : SV} {os : List SO} (h : Ev (fun n => LB9_12 (callF prg n) (n + 1) nl (m9 n) (n + 1 - 1) x3 x4 x5 x6 x7 os) Q) : Ev (fun n => L9_12 (callF prg n) (n + 1) nl (m9 n) (n + 1) x3 x4 x5 x6 x7 os) Q := UL9_12 (c := 0) h
theorem L9_19_s (K : Nat → List SV → List SO → Out) (N nl : Nat) (m19 : Nat) (x4 x5 x8 x9 : SV) (os : List SO) : L9_19 K N nl (m19 + 1) x4 x5 x8 x9 os = LB9_19 K N nl m19 x4 x5 x8 x9 os := by kernel_rfl
theorem UL9_19 {nl c : Nat} {Q : SV → List SO → Prop} {x4 x5 x8 x9 : SV} {os : List SO} (h : Ev (fun n => LB9_19 (callF prg n) (n + 1) nl (n + 1 - (c + 1)) x4 x5 x8 x9 os) Q) : Ev (fun n => L9_19 (callF prg n) (n + 1) nl (n + 1 - c) x4 x5 x8 x9 os) Q := ev_loop (L := fun n m => L9_19 (callF prg n) (n + 1) nl m x4 x5 x8 x9 os) (fun n m => L9_19_s _ _ _ _ _ _ _ _ _) h
theorem VL9_19 {nl : Nat} {Q : SV → List SO → Prop} {x4 x5 x8 x9 : SV} {os : List SO} (h : Ev (fun n => LB9_19 (callF prg n) (n + 1) nl (n + 1 - 1) x4 x5 x8 x9 os) Q) : Ev (fun n => L9_19 (callF prg n) (n + 1) nl (n + 1) x4 x5 x8 x9 os) Q := UL9_19 (c := 0) h
theorem J9_20_s (K : Nat → List SV → List SO → Out) (N nl : Nat) (m19 : Nat) (x4 x5 x8 x9 : SV) (os : List SO) : J9_20 K N nl m19 x4 x5 x8 x9 os = JB9_20 K N nl m19 x4 x5 x8 x9 os := by kernel_rfl
theorem UJ9_20 {nl : Nat} {Q : SV → List SO → Prop} {m19 : Nat → Nat} {x4 x5 x8 x9 : SV} {os : List SO} (h : Ev (fun n => JB9_20 (callF prg n) (n + 1) nl (m19 n) x4 x5 x8 x9 os) Q) : Ev (fun n => J9_20 (callF prg n) (n + 1) nl (m19 n) x4 x5 x8 x9 os) Q := ev_eq (fun n => J9_20_s _ _ _ _ _ _ _ _ _) h
theorem X9_s (K : Nat → List SV → List SO → Out) (N nl : Nat) (x0 : SV) (os : List SO) : X9 K N nl x0 os = B9 K N nl x0 os := by kernel_rfl
theorem E9 (n : Nat) (x0 : SV) (os : List SO) : callF prg (n + 1) 9 [x0] os = X9 (callF prg n) (n + 1) os.length x0 os := by kernel_rfl
theorem U9 {Q : SV → List SO → Prop} {x0 : SV} {os : List SO} {nl : Nat} (hnl : os.length = nl) (h : Ev (fun n => B9 (callF prg n) (n + 1) nl x0 os) Q) : Ev (fun n => callF prg n 9 [x0] os) Q := by subst hnl; exact ev_fun (fun n => (E9 n _ _).trans (X9_s _ _ _ _ _)) h
theorem J10_9_s (K : Nat → List SV → List SO → Out) (N nl : Nat) (x5 x6 x7 x8 : SV) (os : List SO) : J10_9 K N nl x5 x6 x7 x8 os = JB10_9 K N nl x5 x6 x7 x8 os := by kernel_rfl
theorem UJ10_9 {nl : Nat} {Q : SV → List SO → Prop} {x5 x6 x7 x8 : SV} {os : List SO} (h : Ev (fun n => JB10_9 (callF prg n) (n + 1) nl x5 x6 x7 x8 os) Q) : Ev (fun n => J10_9 (callF prg n) (n + 1) nl x5 x6 x7 x8 os) Q := ev_eq (fun n => J10_9_s _ _ _ _ _ _ _ _) h
theorem L10_13_s (K : Nat → List SV → List SO → Out) (N nl : Nat) (m13 : Nat) (x5 x6 x7 x9 x10 : SV) (os : List SO) : L10_13 K N nl (m13 + 1) x5 x6 x7 x9 x10 os = LB10_13 K N nl m13 x5 x6 x7 x9 x10 os := by kernel_rfl
theorem UL10_13 {nl c : Nat} {Q : SV → List SO → Prop} {x5 x6 x7 x9 x10 : SV} {os : List SO} (h : Ev (fun n => LB10_13 (callF prg n) (n + 1) nl (n + 1 - (c + 1)) x5 x6 x7 x9 x10 os) Q) : Ev (fun n => L10_13 (callF prg n) (n + 1) nl (n + 1 - c) x5 x6 x7 x9 x10 os) Q := ev_loop (L := fun n m => L10_13 (callF prg n) (n + 1) nl m x5 x6 x7 x9 x10 os) (fun n m => L10_13_s _ _ _ _ _ _ _ _ _ _) h
theorem VL10_13 {nl : Nat} {Q : SV → List SO → Prop} {x5 x6 x7 x9 x10 : SV} {os : List SO} (h : Ev (fun n => LB10_13 (callF prg n) (n + 1) nl (n + 1 - 1) x5 x6 x7 x9 x10 os) Q) : Ev (fun n => L10_13 (callF prg n) (n + 1) nl (n + 1) x5 x6 x7 x9 x10 os) Q := UL10_13 (c := 0) h
theorem X10_s (K : Nat → List SV → List SO → Out) (N nl : Nat) (x0 x1 : SV) (os : List SO) : X10 K N nl x0 x1 os = B10 K N nl x0 x1 os := by kernel_rfl
theorem E10 (n : Nat) (x0 x1 : SV) (os : List SO) : callF prg (n + 1) 10 [x0, x1] os = X10 (callF prg n) (n + 1) os.length x0 x1 os := by kernel_rfl
theorem U10 {Q : SV → List SO → Prop} {x0 x1 : SV} {os : List SO} {nl : Nat} (hnl : os.length = nl) (h : Ev (fun n => B10 (callF prg n) (n + 1) nl x0 x1 os) Q) : Ev (fun n => callF prg n 10 [x0, x1] os) Q := by subst hnl; exact ev_fun (fun n => (E10 n _ _ _).trans (X10_s _ _ _ _ _ _)) h
theorem X11_s (K : Nat → List SV → List SO → Out) (N nl : Nat) (x0 : SV) (os : List SO) : X11 K N nl x0 os = B11 K N nl x0 os := by kernel_rfl
theorem E11 (n : Nat) (x0 : SV) (os : List SO) : callF prg (n + 1) 11 [x0] os = X11 (callF prg n) (n + 1) os.length x0 os := by kernel_rfl
theorem U11 {Q : SV → List SO → Prop} {x0 : SV} {os : List SO} {nl : Nat} (hnl : os.length = nl) (h : Ev (fun n => B11 (callF prg n) (n + 1) nl x0 os) Q) : Ev (fun n => callF prg n 11 [x0] os) Q := by subst hnl; exact ev_fun (fun n => (E11 n _ _).trans (X11_s _ _ _ _ _)) h
theorem X12_s (K : Nat → List SV → List SO → Out) (N nl : Nat) (os : List SO) : X12 K N nl os = B12 K N nl os := by kernel_rfl
theorem E12 (n : Nat) (os : List SO) : callF prg (n + 1) 12 [] os = X12 (callF prg n) (n + 1) os.length os := by kernel_rfl
theorem U12 {Q : SV → List SO → Prop} {os : List SO} {nl : Nat} (hnl : os.length = nl) (h : Ev (fun n => B12 (callF prg n) (n + 1) nl os) Q) : Ev (fun n => callF prg n 12 [] os) Q := by subst hnl; exact ev_fun (fun n => (E12 n _).trans (X12_s _ _ _ _)) h
theorem X13_s (K : Nat → List SV → List SO → Out) (N nl : Nat) (x0 : SV) (os : List SO) : X13 K N nl x0 os = B13 K N nl x0 os := by kernel_rfl
theorem E13 (n : Nat) (x0 : SV) (os : List SO) : callF prg (n + 1) 13 [x0] os = X13 (callF prg n) (n + 1) os.length x0 os := by kernel_rfl
theorem U13 {Q : SV → List SO → Prop} {x0 : SV} {os : List SO} {nl : Nat} (hnl : os.length = nl) (h : Ev (fun n => B13 (callF prg n) (n + 1) nl x0 os) Q) : Ev (fun n => callF prg n 13 [x0] os) Q := by subst hnl; exact ev_fun (fun n => (E13 n _ _).trans (X13_s _ _ _ _ _)) h
theorem X14_s (K : Nat → List SV → List SO → Out) (N nl : Nat) (x0 : SV) (os : List SO) : X14 K N nl x0 os = B14 K N nl x0 os := by kernel_rfl
theorem E14 (n : Nat) (x0 : SV) (os : List SO) : callF prg (n + 1) 14 [x0] os = X14 (callF prg n) (n + 1) os.length x0 os := by kernel_rfl
theorem U14 {Q : SV → List SO → Prop} {x0 : SV} {os : List SO} {nl : Nat} (hnl : os.length = nl) (h : Ev (fun n => B14 (callF prg n) (n + 1) nl x0 os) Q) : Ev (fun n => callF prg n 14 [x0] os) Q := by subst hnl; exact ev_fun (fun n => (E14 n _ _).trans (X14_s _ _ _ _ _)) h
theorem X15_s (K : Nat → List SV → List SO → Out) (N nl : Nat) (x0 : SV) (os : List SO) : X15 K N nl x0 os = B15 K N nl x0 os := by kernel_rfl
theorem E15 (n : Nat) (x0 : SV) (os : List SO) : callF prg (n + 1) 15 [x0] os = X15 (callF prg n) (n + 1) os.length x0 os := by kernel_rfl
theorem U15 {Q : SV → List SO → Prop} {x0 : SV} {os : List SO} {nl : Nat} (hnl : os.length = nl) (h : Ev (fun n => B15 (callF prg n) (n + 1) nl x0 os) Q) : Ev (fun n => callF prg n 15 [x0] os) Q := by subst hnl; exact ev_fun (fun n => (E15 n _ _).trans (X15_s _ _ _ _ _)) h
theorem X16_s (K : Nat → List SV → List SO → Out) (N nl : Nat) (x0 x1 : SV) (os : List SO) : X16 K N nl x0 x1 os = B16 K N nl x0 x1 os := by kernel_rfl
theorem E16 (n : Nat) (x0 x1 : SV) (os : List SO) : callF prg (n + 1) 16 [x0, x1] os = X16 (callF prg n) (n + 1) os.length x0 x1 os := by kernel_rfl
theorem U16 {Q : SV → List SO → Prop} {x0 x1 : SV} {os : List SO} {nl : Nat} (hnl : os.length = nl) (h : Ev (fun n => B16 (callF prg n) (n + 1) nl x0 x1 os) Q) : Ev (fun n => callF prg n 16 [x0, x1] os) Q := by subst hnl; exact ev_fun (fun n => (E16 n _ _ _).trans (X16_s _ _ _ _ _ _)) h
theorem X17_s (K : Nat → List SV → List SO → Out) (N nl : Nat) (x0 x1 : SV) (os : List SO) : X17 K N nl x0 x1 os = B17 K N nl x0 x1 os := by kernel_rfl
theorem E17 (n : Nat) (x0 x1 : SV) (os : List SO) : callF prg (n + 1) 17 [x0, x1] os = X17 (callF prg n) (n + 1) os.length x0 x1 os := by kernel_rfl
theorem U17 {Q : SV → List SO → Prop} {x0 x1 : SV} {os : List SO} {nl : Nat} (hnl : os.length = nl) (h : Ev (fun n => B17 (callF prg n) (n + 1) nl x0 x1 os) Q) : Ev (fun n => callF prg n 17 [x0, x1] os) Q := by subst hnl; exact ev_fun (fun n => (E17 n _ _ _).trans (X17_s _ _ _ _ _ _)) h
theorem L18_4_s (K : Nat → List SV → List SO → Out) (N nl : Nat) (m4 : Nat) (x2 x3 x5 : SV) (os : List SO) : L18_4 K N nl (m4 + 1) x2 x3 x5 os = LB18_4 K N nl m4 x2 x3 x5 os := by kernel_rfl
theorem UL18_4 {nl c : Nat} {Q : SV → List SO → Prop} {x2 x3 x5 : SV} {os : List SO} (h : Ev (fun n => LB18_4 (callF prg n) (n + 1) nl (n + 1 - (c + 1)) x2 x3 x5 os) Q) : Ev (fun n => L18_4 (callF prg n) (n + 1) nl (n + 1 - c) x2 x3 x5 os) Q := ev_loop (L := fun n m => L18_4 (callF prg n) (n + 1) nl m x2 x3 x5 os) (fun n m => L18_4_s _ _ _ _ _ _ _ _) h
theorem VL18_4 {nl : Nat} {Q : SV → List SO → Prop} {x2 x3 x5 : SV} {os : List SO} (h : Ev (fun n => LB18_4 (callF prg n) (n + 1) nl (n + 1 - 1) x2 x3 x5 os) Q) : Ev (fun n => L18_4 (callF prg n) (n + 1) nl (n + 1) x2 x3 x5 os) Q := UL18_4 (c := 0) h
theorem L18_9_s (K : Nat → List SV → List SO → Out) (N nl : Nat) (m9 : Nat) (x2 x3 x6 : SV) (os : List SO) : L18_9 K N nl (m9 + 1) x2 x3 x6 os = LB18_9 K N nl m9 x2 x3 x6 os := by kernel_rfl
theorem UL18_9 {nl c : Nat} {Q : SV → List SO → Prop} {x2 x3 x6 : SV} {os : List SO} (h : Ev (fun n => LB18_9 (callF prg n) (n + 1) nl (n + 1 - (c + 1)) x2 x3 x6 os) Q) : Ev (fun n => L18_9 (callF prg n) (n + 1) nl (n + 1 - c) x2 x3 x6 os) Q := ev_loop (L := fun n m => L18_9 (callF prg n) (n + 1) nl m x2 x3 x6 os) (fun n m => L18_9_s _ _ _ _ _ _ _ _) h
theorem VL18_9 {nl : Nat} {Q : SV → List SO → Prop} {x2 x3 x6 : SV} {os : List SO} (h : Ev (fun n => LB18_9 (callF prg n) (n + 1) nl (n + 1 - 1) x2 x3 x6 os) Q) : Ev (fun n => L18_9 (callF prg n) (n + 1) nl (n + 1) x2 x3 x6 os) Q := UL18_9 (c := 0) h
theorem X18_s (K : Nat → List SV → List SO → Out) (N nl : Nat) (x0 x1 : SV) (os : List SO) : X18 K N nl x0 x1 os = B18 K N nl x0 x1 os := by kernel_rfl
theorem E18 (n : Nat) (x0 x1 : SV) (os : List SO) : callF prg (n + 1) 18 [x0, x1] os = X18 (callF prg n) (n + 1) os.length x0 x1 os := by kernel_rfl
theorem U18 {Q : SV → List SO → Prop} {x0 x1 : SV} {os : List SO} {nl : Nat} (hnl : os.length = nl) (h : Ev (fun n => B18 (callF prg n) (n + 1) nl x0 x1 os) Q) : Ev (fun n => callF prg n 18 [x0, x1] os) Q := by subst hnl; exact ev_fun (fun n => (E18 n _ _ _).trans (X18_s _ _ _ _ _ _)) h
theorem X19_s (K : Nat → List SV → List SO → Out) (N nl : Nat) (x0 : SV) (os : List SO) : X19 K N nl x0 os = B19 K N nl x0 os := by kernel_rfl
theorem E19 (n : Nat) (x0 : SV) (os : List SO) : callF prg (n + 1) 19 [x0] os = X19 (callF prg n) (n + 1) os.length x0 os := by kernel_rfl
theorem U19 {Q : SV → List SO → Prop} {x0 : SV} {os : List SO} {nl : Nat} (hnl : os.length = nl) (h : Ev (fun n => B19 (callF prg n) (n + 1) nl x0 os) Q) : Ev (fun n => callF prg n 19 [x0] os) Q := by subst hnl; exact ev_fun (fun n => (E19 n _ _).trans (X19_s _ _ _ _ _)) h
theorem L20_2_s (K : Nat → List SV → List SO → Out) (N nl : Nat) (m2 : Nat) (x0 x3 x5 : SV) (os : List SO) : L20_2 K N nl (m2 + 1) x0 x3 x5 os = LB20_2 K N nl m2 x0 x3 x5 os := by kernel_rfl
theorem UL20_2 {nl c : Nat} {Q : SV → List SO → Prop} {x0 x3 x5 : SV} {os : List SO} (h : Ev (fun n => LB20_2 (callF prg n) (n + 1) nl (n + 1 - (c + 1)) x0 x3 x5 os) Q) : Ev (fun n => L20_2 (callF prg n) (n + 1) nl (n + 1 - c) x0 x3 x5 os) Q := ev_loop (L := fun n m => L20_2 (callF prg n) (n + 1) nl m x0 x3 x5 os) (fun n m => L20_2_s _ _ _ _ _ _ _ _) h
theorem VL20_2 {nl : Nat} {Q : SV → List SO → Prop} {x0 x3 x5 : SV} {os : List SO} (h : Ev (fun n => LB20_2 (callF prg n) (n + 1) nl (n + 1 - 1) x0 x3 x5 os) Q) : Ev (fun n => L20_2 (callF prg n) (n + 1) nl (n + 1) x0 x3 x5 os) Q := UL20_2 (c := 0) h
theorem X20_s (K : Nat → List SV → List SO → Out) (N nl : Nat) (x0 x1 : SV) (os : List SO) : X20 K N nl x0 x1 os = B20 K N nl x0 x1 os := by kernel_rfl
theorem E20 (n : Nat) (x0 x1 : SV) (os : List SO) : callF prg (n + 1) 20 [x0, x1] os = X20 (callF prg n) (n + 1) os.length x0 x1 os := by kernel_rfl
theorem U20 {Q : SV → List SO → Prop} {x0 x1 : SV} {os : List SO} {nl : Nat} (hnl : os.length = nl) (h : Ev (fun n => B20 (callF prg n) (n + 1) nl x0 x1 os) Q) : Ev (fun n => callF prg n 20 [x0, x1] os) Q := by subst hnl; exact ev_fun (fun n => (E20 n _ _ _).trans (X20_s _ _ _ _ _ _)) h
theorem L21_5_s (K : Nat → List SV → List SO → Out) (N nl : Nat) (m5 : Nat) (x0 x1 x5 : SV) (os : List SO) : L21_5 K N nl (m5 + 1) x0 x1 x5 os = LB21_5 K N nl m5 x0 x1 x5 os := by kernel_rfl
theorem UL21_5 {nl c : Nat} {Q : SV → List SO → Prop} {x0 x1 x5 : SV} {os : List SO} (h : Ev (fun n => LB21_5 (callF prg n) (n + 1) nl (n + 1 - (c + 1)) x0 x1 x5 os) Q) : Ev (fun n => L21_5 (callF prg n) (n + 1) nl (n + 1 - c) x0 x1 x5 os) Q := ev_loop (L := fun n m => L21_5 (callF prg n) (n + 1) nl m x0 x1 x5 os) (fun n m => L21_5_s _ _ _ _ _ _ _ _) h
theorem VL21_5 {nl : Nat} {Q : SV → List SO → Prop} {x0 x1 x5 : SV} {os : List SO} (h : Ev (fun n => LB21_5 (callF prg n) (n + 1) nl (n + 1 - 1) x0 x1 x5 os) Q) : Ev (fun n => L21_5 (callF prg n) (n + 1) nl (n + 1) x0 x1 x5 os) Q := UL21_5 (c := 0) h
theorem X21_s (K : Nat → List SV → List SO → Out) (N nl : Nat) (x0 x1 : SV) (os : List SO) : X21 K N nl x0 x1 os = B21 K N nl x0 x1 os := by kernel_rfl
theorem E21 (n : Nat) (x0 x1 : SV) (os : List SO) : callF prg (n + 1) 21 [x0, x1] os = X21 (callF prg n) (n + 1) os.length x0 x1 os := by kernel_rfl
theorem U21 {Q : SV → List SO → Prop} {x0 x1 : SV} {os : List SO} {nl : Nat} (hnl : os.length = nl) (h : Ev (fun n => B21 (callF prg n) (n + 1) nl x0 x1 os) Q) : Ev (fun n => callF prg n 21 [x0, x1] os) Q := by subst hnl; exact ev_fun (fun n => (E21 n _ _ _).trans (X21_s _ _ _ _ _ _)) h
theorem L22_4_s (K : Nat → List SV → List SO → Out) (N nl : Nat) (m4 : Nat) (x0 x3 : SV) (os : List SO) : L22_4 K N nl (m4 + 1) x0 x3 os = LB22_4 K N nl m4 x0 x3 os := by kernel_rfl
theorem UL22_4 {nl c : Nat} {Q : SV → List SO → Prop} {x0 x3 : SV} {os : List SO} (h : Ev (fun n => LB22_4 (callF prg n) (n + 1) nl (n + 1 - (c + 1)) x0 x3 os) Q) : Ev (fun n => L22_4 (callF prg n) (n + 1) nl (n + 1 - c) x0 x3 os) Q := ev_loop (L := fun n m => L22_4 (callF prg n) (n + 1) nl m x0 x3 os) (fun n m => L22_4_s _ _ _ _ _ _ _) h
theorem VL22_4 {nl : Nat} {Q : SV → List SO → Prop} {x0 x3 : SV} {os : List SO} (h : Ev (fun n => LB22_4 (callF prg n) (n + 1) nl (n + 1 - 1) x0 x3 os) Q) : Ev (fun n => L22_4 (callF prg n) (n + 1) nl (n + 1) x0 x3 os) Q := UL22_4 (c := 0) h
theorem L22_7_s (K : Nat → List SV → List SO → Out) (N nl : Nat) (m4 : Nat) (m7 : Nat) (x0 x3 x4 : SV) (os : List SO) : L22_7 K N nl m4 (m7 + 1) x0 x3 x4 os = LB22_7 K N nl m4 m7 x0 x3 x4 os := by kernel_rfl
theorem UL22_7 {nl c : Nat} {Q : SV → List SO → Prop} {m4 : Nat → Nat} {x0 x3 x4 : SV} {os : List SO} (h : Ev (fun n => LB22_7 (callF prg n) (n + 1) nl (m4 n) (n + 1 - (c + 1)) x0 x3 x4 os) Q) : Ev (fun n => L22_7 (callF prg n) (n + 1) nl (m4 n) (n + 1 - c) x0 x3 x4 os) Q := ev_loop (L := fun n m => L22_7 (callF prg n) (n + 1) nl (m4 n) m x0 x3 x4 os) (fun n m => L22_7_s _ _ _ _ _ _ _ _ _) h
theorem VL22_7 {nl : Nat} {Q : SV → List SO → Prop} {m4 : Nat → Nat} {x0 x3 x4 : SV} {os : List SO} (h : Ev (fun n => LB22_7 (callF prg n) (n + 1) nl (m4 n) (n + 1 - 1) x0 x3 x4 os) Q) : Ev (fun n => L22_7 (callF prg n) (n + 1) nl (m4 n) (n + 1) x0 x3 x4 os) Q := UL22_7 (c := 0) h
theorem L22_12_s (K : Nat → List SV → List SO → Out) (N nl : Nat) (m4 : Nat) (m12 : Nat) (x0 x3 x5 : SV) (os : List SO) : L22_12 K N nl m4 (m12 + 1) x0 x3 x5 os = LB22_12 K N nl m4 m12 x0 x3 x5 os := by kernel_rfl
theorem UL22_12 {nl c : Nat} {Q : SV → List SO → Prop} {m4 : Nat → Nat} {x0 x3 x5 : SV} {os : List SO} (h : Ev (fun n => LB22_12 (callF prg n) (n + 1) nl (m4 n) (n + 1 - (c + 1)) x0 x3 x5 os) Q) : Ev (fun n => L22_12 (callF prg n) (n + 1) nl (m4 n) (n + 1 - c) x0 x3 x5 os) Q := ev_loop (L := fun n m => L22_12 (callF prg n) (n + 1) nl (m4 n) m x0 x3 x5 os) (fun n m => L22_12_s _ _ _ _ _ _ _ _ _) h
theorem VL22_12 {nl : Nat} {Q : SV → List SO → Prop} {m4 : Nat → Nat} {x0 x3 x5 : SV} {os : List SO} (h : Ev (fun n => LB22_12 (callF prg n) (n + 1) nl (m4 n) (n + 1 - 1) x0 x3 x5 os) Q) : Ev (fun n => L22_12 (callF prg n) (n + 1) nl (m4 n) (n + 1) x0 x3 x5 os) Q := UL22_12 (c := 0) h
theorem X22_s (K : Nat → List SV → List SO → Out) (N nl : Nat) (x0 : SV) (os : List SO) : X22 K N nl x0 os = B22 K N nl x0 os := by kernel_rfl
theorem E22 (n : Nat) (x0 : SV) (os : List SO) : callF prg (n + 1) 22 [x0] os = X22 (callF prg n) (n + 1) os.length x0 os := by kernel_rfl
theorem U22 {Q : SV → List SO → Prop} {x0 : SV} {os : List SO} {nl : Nat} (hnl : os.length = nl) (h : Ev (fun n => B22 (callF prg n) (n + 1) nl x0 os) Q) : Ev (fun n => callF prg n 22 [x0] os) Q := by subst hnl; exact ev_fun (fun n => (E22 n _ _).trans (X22_s _ _ _ _ _)) h
theorem L23_3_s (K : Nat → List SV → List SO → Out) (N nl : Nat) (m3 : Nat) (x0 x3 x4 : SV) (os : List SO) : L23_3 K N nl (m3 + 1) x0 x3 x4 os = gcB nl [x0, x3, x4] os fun xs os => G23_3 K N nl m3 xs os := by kernel_rfl
theorem UL23_3 {nl c : Nat} {Q : SV → List SO → Prop} {x0 x3 x4 : SV} {os : List SO} (h : Ev (fun n => gcB nl [x0, x3, x4] os fun xs os => G23_3 (callF prg n) (n + 1) nl (n + 1 - (c + 1)) xs os) Q) : Ev (fun n => L23_3 (callF prg n) (n + 1) nl (n + 1 - c) x0 x3 x4 os) Q := ev_loop (L := fun n m => L23_3 (callF prg n) (n + 1) nl m x0 x3 x4 os) (fun n m => L23_3_s _ _ _ _ _ _ _ _) h
theorem VL23_3 {nl : Nat} {Q : SV → List SO → Prop} {x0 x3 x4 : SV} {os : List SO} (h : Ev (fun n => gcB nl [x0, x3, x4] os fun xs os => G23_3 (callF prg n) (n + 1) nl (n + 1 - 1) xs os) Q) : Ev (fun n => L23_3 (callF prg n) (n + 1) nl (n + 1) x0 x3 x4 os) Q := UL23_3 (c := 0) h
theorem G23_3_s (K : Nat → List SV → List SO → Out) (N nl : Nat) (m3 : Nat) (x0 x3 x4 : SV) (os : List SO) : G23_3 K N nl m3 [x0, x3, x4] os = GB23_3 K N nl m3 x0 x3 x4 os := by kernel_rfl
theorem UG23_3 {nl : Nat} {Q : SV → List SO → Prop} (m3 : Nat → Nat) {x0 x3 x4 : SV} {os : List SO} (h : Ev (fun n => GB23_3 (callF prg n) (n + 1) nl (m3 n) x0 x3 x4 os) Q) : Ev (fun n => G23_3 (callF prg n) (n + 1) nl (m3 n) [x0, x3, x4] os) Q := ev_eq (fun n => G23_3_s _ _ _ _ _ _ _ _) h
theorem X23_s (K : Nat → List SV → List SO → Out) (N nl : Nat) (x0 : SV) (os : List SO) : X23 K N nl x0 os = B23 K N nl x0 os := by kernel_rfl
theorem E23 (n : Nat) (x0 : SV) (os : List SO) : callF prg (n + 1) 23 [x0] os = X23 (callF prg n) (n + 1) os.length x0 os := by kernel_rfl
theorem U23 {Q : SV → List SO → Prop} {x0 : SV} {os : List SO} {nl : Nat} (hnl : os.length = nl) (h : Ev (fun n => B23 (callF prg n) (n + 1) nl x0 os) Q) : Ev (fun n => callF prg n 23 [x0] os) Q := by subst hnl; exact ev_fun (fun n => (E23 n _ _).trans (X23_s _ _ _ _ _)) h
theorem L24_5_s (K : Nat → List SV → List SO → Out) (N nl : Nat) (m5 : Nat) (x1 x3 x11 x12 x13 : SV) (os : List SO) : L24_5 K N nl (m5 + 1) x1 x3 x11 x12 x13 os = gcB nl [x1, x3, x11, x12, x13] os fun xs os => G24_5 K N nl m5 xs os := by kernel_rfl
theorem UL24_5 {nl c : Nat} {Q : SV → List SO → Prop} {x1 x3 x11 x12 x13 : SV} {os : List SO} (h : Ev (fun n => gcB nl [x1, x3, x11, x12, x13] os fun xs os => G24_5 (callF prg n) (n + 1) nl (n + 1 - (c + 1)) xs os) Q) : Ev (fun n => L24_5 (callF prg n) (n + 1) nl (n + 1 - c) x1 x3 x11 x12 x13 os) Q := ev_loop (L := fun n m => L24_5 (callF prg n) (n + 1) nl m x1 x3 x11 x12 x13 os) (fun n m => L24_5_s _ _ _ _ _ _ _ _ _ _) h
theorem VL24_5 {nl : Nat} {Q : SV → List SO → Prop} {x1 x3 x11 x12 x13 : SV} {os : List SO} (h : Ev (fun n => gcB nl [x1, x3, x11, x12, x13] os fun xs os => G24_5 (callF prg n) (n + 1) nl (n + 1 - 1) xs os) Q) : Ev (fun n => L24_5 (callF prg n) (n + 1) nl (n + 1) x1 x3 x11 x12 x13 os) Q := UL24_5 (c := 0) h
theorem G24_5_s (K : Nat → List SV → List SO → Out) (N nl : Nat) (m5 : Nat) (x1 x3 x11 x12 x13 : SV) (os : List SO) : G24_5 K N nl m5 [x1, x3, x11, x12, x13] os = GB24_5 K N nl m5 x1 x3 x11 x12 x13 os := by kernel_rfl
theorem UG24_5 {nl : Nat} {Q : SV → List SO → Prop} (m5 : Nat → Nat) {x1 x3 x11 x12 x13 : SV} {os : List SO} (h : Ev (fun n => GB24_5 (callF prg n) (n + 1) nl (m5 n) x1 x3 x11 x12 x13 os) Q) : Ev (fun n => G24_5 (callF prg n) (n + 1) nl (m5 n) [x1, x3, x11, x12, x13] os) Q := ev_eq (fun n => G24_5_s _ _ _ _ _ _ _ _ _ _) h
theorem L24_10_s (K : Nat → List SV → List SO → Out) (N nl : Nat) (m5 : Nat) (m10 : Nat) (x1 x3 x11 x12 x13 x38 x39 x40 : SV) (os : List SO) : L24_10 K N nl m5 (m10 + 1) x1 x3 x11 x12 x13 x38 x39 x40 os = gcB nl [x1, x3, x11, x12, x13, x38, x39, x40] os fun xs os => G24_10 K N nl m5 m10 xs os := by kernel_rfl
theorem UL24_10 {nl c : Nat} {Q : SV → List SO → Prop} {m5 : Nat → Nat} {x1 x3 x11 x12 x13 x38 x39 x40 : SV} {os : List SO} (h : Ev (fun n => gcB nl [x1, x3, x11, x12, x13, x38, x39, x40] os fun xs os => G24_10 (callF prg n) (n + 1) nl (m5 n) (n + 1 - (c + 1)) xs os) Q) : Ev (fun n => L24_10 (callF prg n) (n + 1) nl (m5 n) (n + 1 - c) x1 x3 x11 x12 x13 x38 x39 x40 os) Q := ev_loop (L := fun n m => L24_10 (callF prg n) (n + 1) nl (m5 n) m x1 x3 x11 x12 x13 x38 x39 x40 os) (fun n m => L24_10_s _ _ _ _ _ _ _ _ _ _ _ _ _ _) h
theorem VL24_10 {nl : Nat} {Q : SV → List SO → Prop} {m5 : Nat → Nat} {x1 x3 x11 x12 x13 x38 x39 x40 : SV} {os : List SO} (h : Ev (fun n => gcB nl [x1, x3, x11, x12, x13, x38, x39, x40] os fun xs os => G24_10 (callF prg n) (n + 1) nl (m5 n) (n + 1 - 1) xs os) Q) : Ev (fun n => L24_10 (callF prg n) (n + 1) nl (m5 n) (n + 1) x1 x3 x11 x12 x13 x38 x39 x40 os) Q := UL24_10 (c := 0) h
theorem G24_10_s (K : Nat → List SV → List SO → Out) (N nl : Nat) (m5 : Nat) (m10 : Nat) (x1 x3 x11 x12 x13 x38 x39 x40 : SV) (os : List SO) : G24_10 K N nl m5 m10 [x1, x3, x11, x12, x13, x38, x39, x40] os = GB24_10 K N nl m5 m10 x1 x3 x11 x12 x13 x38 x39 x40 os := by kernel_rfl
theorem UG24_10 {nl : Nat} {Q : SV → List SO → Prop} {m5 : Nat → Nat} (m10 : Nat → Nat) {x1 x3 x11 x12 x13 x38 x39 x40 : SV} {os : List SO} (h : Ev (fun n => GB24_10 (callF prg n) (n + 1) nl (m5 n) (m10 n) x1 x3 x11 x12 x13 x38 x39 x40 os) Q) : Ev (fun n => G24_10 (callF prg n) (n + 1) nl (m5 n) (m10 n) [x1, x3, x11, x12, x13, x38, x39, x40] os) Q := ev_eq (fun n => G24_10_s _ _ _ _ _ _ _ _ _ _ _ _ _ _) h
theorem X24_s (K : Nat → List SV → List SO → Out) (N nl : Nat) (x0 : SV) (os : List SO) : X24 K N nl x0 os = B24 K N nl x0 os := by kernel_rfl
theorem E24 (n : Nat) (x0 : SV) (os : List SO) : callF prg (n + 1) 24 [x0] os = X24 (callF prg n) (n + 1) os.length x0 os := by kernel_rfl
theorem U24 {Q : SV → List SO → Prop} {x0 : SV} {os : List SO} {nl : Nat} (hnl : os.length = nl) (h : Ev (fun n => B24 (callF prg n) (n + 1) nl x0 os) Q) : Ev (fun n => callF prg n 24 [x0] os) Q := by subst hnl; exact ev_fun (fun n => (E24 n _ _).trans (X24_s _ _ _ _ _)) h
theorem L25_4_s (K : Nat → List SV → List SO → Out) (N nl : Nat) (m4 : Nat) (x0 x1 x5 : SV) (os : List SO) : L25_4 K N nl (m4 + 1) x0 x1 x5 os = LB25_4 K N nl m4 x0 x1 x5 os := by kernel_rfl
theorem UL25_4 {nl c : Nat} {Q : SV → List SO → Prop} {x0 x1 x5 : SV} {os : List SO} (h : Ev (fun n => LB25_4 (callF prg n) (n + 1) nl (n + 1 - (c + 1)) x0 x1 x5 os) Q) : Ev (fun n => L25_4 (callF prg n) (n + 1) nl (n + 1 - c) x0 x1 x5 os) Q := ev_loop (L := fun n m => L25_4 (callF prg n) (n + 1) nl m x0 x1 x5 os) (fun n m => L25_4_s _ _ _ _ _ _ _ _) h
theorem VL25_4 {nl : Nat} {Q : SV → List SO → Prop} {x0 x1 x5 : SV} {os : List SO} (h : Ev (fun n => LB25_4 (callF prg n) (n + 1) nl (n + 1 - 1) x0 x1 x5 os) Q) : Ev (fun n => L25_4 (callF prg n) (n + 1) nl (n + 1) x0 x1 x5 os) Q := UL25_4 (c := 0) h
theorem X25_s (K : Nat → List SV → List SO → Out) (N nl : Nat) (x0 x1 : SV) (os : List SO) : X25 K N nl x0 x1 os = B25 K N nl x0 x1 os := by kernel_rfl
theorem E25 (n : Nat) (x0 x1 : SV) (os : List SO) : callF prg (n + 1) 25 [x0, x1] os = X25 (callF prg n) (n + 1) os.length x0 x1 os := by kernel_rfl
theorem U25 {Q : SV → List SO → Prop} {x0 x1 : SV} {os : List SO} {nl : Nat} (hnl : os.length = nl) (h : Ev (fun n => B25 (callF prg n) (n + 1) nl x0 x1 os) Q) : Ev (fun n => callF prg n 25 [x0, x1] os) Q := by subst hnl; exact ev_fun (fun n => (E25 n _ _ _).trans (X25_s _ _ _ _ _ _)) h
theorem L26_4_s (K : Nat → List SV → List SO → Out) (N nl : Nat) (m4 : Nat) (x3 x4 x5 : SV) (os : List SO) : L26_4 K N nl (m4 + 1) x3 x4 x5 os = gcB nl [x3, x4, x5] os fun xs os => G26_4 K N nl m4 xs os := by kernel_rfl
theorem UL26_4 {nl c : Nat} {Q : SV → List SO → Prop} {x3 x4 x5 : SV} {os : List SO} (h : Ev (fun n => gcB nl [x3, x4, x5] os fun xs os => G26_4 (callF prg n) (n + 1) nl (n + 1 - (c + 1)) xs os) Q) : Ev (fun n => L26_4 (callF prg n) (n + 1) nl (n + 1 - c) x3 x4 x5 os) Q := ev_loop (L := fun n m => L26_4 (callF prg n) (n + 1) nl m x3 x4 x5 os) (fun n m => L26_4_s _ _ _ _ _ _ _ _) h
theorem VL26_4 {nl : Nat} {Q : SV → List SO → Prop} {x3 x4 x5 : SV} {os : List SO} (h : Ev (fun n => gcB nl [x3, x4, x5] os fun xs os => G26_4 (callF prg n) (n + 1) nl (n + 1 - 1) xs os) Q) : Ev (fun n => L26_4 (callF prg n) (n + 1) nl (n + 1) x3 x4 x5 os) Q := UL26_4 (c := 0) h
theorem G26_4_s (K : Nat → List SV → List SO → Out) (N nl : Nat) (m4 : Nat) (x3 x4 x5 : SV) (os : List SO) : G26_4 K N nl m4 [x3, x4, x5] os = GB26_4 K N nl m4 x3 x4 x5 os := by kernel_rfl
theorem UG26_4 {nl : Nat} {Q : SV → List SO → Prop} (m4 : Nat → Nat) {x3 x4 x5 : SV} {os : List SO} (h : Ev (fun n => GB26_4 (callF prg n) (n + 1) nl (m4 n) x3 x4 x5 os) Q) : Ev (fun n => G26_4 (callF prg n) (n + 1) nl (m4 n) [x3, x4, x5] os) Q := ev_eq (fun n => G26_4_s _ _ _ _ _ _ _ _) h
theorem X26_s (K : Nat → List SV → List SO → Out) (N nl : Nat) (x0 : SV) (os : List SO) : X26 K N nl x0 os = B26 K N nl x0 os := by kernel_rfl
theorem E26 (n : Nat) (x0 : SV) (os : List SO) : callF prg (n + 1) 26 [x0] os = X26 (callF prg n) (n + 1) os.length x0 os := by kernel_rfl
theorem U26 {Q : SV → List SO → Prop} {x0 : SV} {os : List SO} {nl : Nat} (hnl : os.length = nl) (h : Ev (fun n => B26 (callF prg n) (n + 1) nl x0 os) Q) : Ev (fun n => callF prg n 26 [x0] os) Q := by subst hnl; exact ev_fun (fun n => (E26 n _ _).trans (X26_s _ _ _ _ _)) h
theorem X27_s (K : Nat → List SV → List SO → Out) (N nl : Nat) (x0 x1 : SV) (os : List SO) : X27 K N nl x0 x1 os = B27 K N nl x0 x1 os := by kernel_rfl
theorem E27 (n : Nat) (x0 x1 : SV) (os : List SO) : callF prg (n + 1) 27 [x0, x1] os = X27 (callF prg n) (n + 1) os.length x0 x1 os := by kernel_rfl
theorem U27 {Q : SV → List SO → Prop} {x0 x1 : SV} {os : List SO} {nl : Nat} (hnl : os.length = nl) (h : Ev (fun n => B27 (callF prg n) (n + 1) nl x0 x1 os) Q) : Ev (fun n => callF prg n 27 [x0, x1] os) Q := by subst hnl; exact ev_fun (fun n => (E27 n _ _ _).trans (X27_s _ _ _ _ _ _)) h
theorem L28_2_s (K : Nat → List SV → List SO → Out) (N nl : Nat) (m2 : Nat) (x0 x1 x5 : SV) (os : List SO) : L28_2 K N nl (m2 + 1) x0 x1 x5 os = LB28_2 K N nl m2 x0 x1 x5 os := by kernel_rfl
theorem UL28_2 {nl c : Nat} {Q : SV → List SO → Prop} {x0 x1 x5 : SV} {os : List SO} (h : Ev (fun n => LB28_2 (callF prg n) (n + 1) nl (n + 1 - (c + 1)) x0 x1 x5 os) Q) : Ev (fun n => L28_2 (callF prg n) (n + 1) nl (n + 1 - c) x0 x1 x5 os) Q := ev_loop (L := fun n m => L28_2 (callF prg n) (n + 1) nl m x0 x1 x5 os) (fun n m => L28_2_s _ _ _ _ _ _ _ _) h
theorem VL28_2 {nl : Nat} {Q : SV → List SO → Prop} {x0 x1 x5 : SV} {os : List SO} (h : Ev (fun n => LB28_2 (callF prg n) (n + 1) nl (n + 1 - 1) x0 x1 x5 os) Q) : Ev (fun n => L28_2 (callF prg n) (n + 1) nl (n + 1) x0 x1 x5 os) Q := UL28_2 (c := 0) h
theorem X28_s (K : Nat → List SV → List SO → Out) (N nl : Nat) (x0 x1 : SV) (os : List SO) : X28 K N nl x0 x1 os = B28 K N nl x0 x1 os := by kernel_rfl
theorem E28 (n : Nat) (x0 x1 : SV) (os : List SO) : callF prg (n + 1) 28 [x0, x1] os = X28 (callF prg n) (n + 1) os.length x0 x1 os := by kernel_rfl
theorem U28 {Q : SV → List SO → Prop} {x0 x1 : SV} {os : List SO} {nl : Nat} (hnl : os.length = nl) (h : Ev (fun n => B28 (callF prg n) (n + 1) nl x0 x1 os) Q) : Ev (fun n => callF prg n 28 [x0, x1] os) Q := by subst hnl; exact ev_fun (fun n => (E28 n _ _ _).trans (X28_s _ _ _ _ _ _)) h
theorem X29_s (K : Nat → List SV → List SO → Out) (N nl : Nat) (x0 x1 : SV) (os : List SO) : X29 K N nl x0 x1 os = B29 K N nl x0 x1 os := by kernel_rfl
theorem E29 (n : Nat) (x0 x1 : SV) (os : List SO) : callF prg (n + 1) 29 [x0, x1] os = X29 (callF prg n) (n + 1) os.length x0 x1 os := by kernel_rfl
theorem U29 {Q : SV → List SO → Prop} {x0 x1 : SV} {os : List SO} {nl : Nat} (hnl : os.length = nl) (h : Ev (fun n => B29 (callF prg n) (n + 1) nl x0 x1 os) Q) : Ev (fun n => callF prg n 29 [x0, x1] os) Q := by subst hnl; exact ev_fun (fun n => (E29 n _ _ _).trans (X29_s _ _ _ _ _ _)) h
theorem X30_s (K : Nat → List SV → List SO → Out) (N nl : Nat) (x0 x1 : SV) (os : List SO) : X30 K N nl x0 x1 os = B30 K N nl x0 x1 os := by kernel_rfl
theorem E30 (n : Nat) (x0 x1 : SV) (os : List SO) : callF prg (n + 1) 30 [x0, x1] os = X30 (callF prg n) (n + 1) os.length x0 x1 os := by kernel_rfl
theorem U30 {Q : SV → List SO → Prop} {x0 x1 : SV} {os : List SO} {nl : Nat} (hnl : os.length = nl) (h : Ev (fun n => B30 (callF prg n) (n + 1) nl x0 x1 os) Q) : Ev (fun n => callF prg n 30 [x0, x1] os) Q := by subst hnl; exact ev_fun (fun n => (E30 n _ _ _).trans (X30_s _ _ _ _ _ _)) h
theorem X31_s (K : Nat → List SV → List SO → Out) (N nl : Nat) (x0 : SV) (os : List SO) : X31 K N nl x0 os = B31 K N nl x0 os := by kernel_rfl
theorem E31 (n : Nat) (x0 : SV) (os : List SO) : callF prg (n + 1) 31 [x0] os = X31 (callF prg n) (n + 1) os.length x0 os := by kernel_rfl
theorem U31 {Q : SV → List SO → Prop} {x0 : SV} {os : List SO} {nl : Nat} (hnl : os.length = nl) (h : Ev (fun n => B31 (callF prg n) (n + 1) nl x0 os) Q) : Ev (fun n => callF prg n 31 [x0] os) Q := by subst hnl; exact ev_fun (fun n => (E31 n _ _).trans (X31_s _ _ _ _ _)) h
theorem L32_5_s (K : Nat → List SV → List SO → Out) (N nl : Nat) (m5 : Nat) (x3 x13 x14 x15 : SV) (os : List SO) : L32_5 K N nl (m5 + 1) x3 x13 x14 x15 os = gcB nl [x3, x13, x14, x15] os fun xs os => G32_5 K N nl m5 xs os := by kernel_rfl
theorem UL32_5 {nl c : Nat} {Q : SV → List SO → Prop} {x3 x13 x14 x15 : SV} {os : List SO} (h : Ev (fun n => gcB nl [x3, x13, x14, x15] os fun xs os => G32_5 (callF prg n) (n + 1) nl (n + 1 - (c + 1)) xs os) Q) : Ev (fun n => L32_5 (callF prg n) (n + 1) nl (n + 1 - c) x3 x13 x14 x15 os) Q := ev_loop (L := fun n m => L32_5 (callF prg n) (n + 1) nl m x3 x13 x14 x15 os) (fun n m => L32_5_s _ _ _ _ _ _ _ _ _) h
theorem VL32_5 {nl : Nat} {Q : SV → List SO → Prop} {x3 x13 x14 x15 : SV} {os : List SO} (h : Ev (fun n => gcB nl [x3, x13, x14, x15] os fun xs os => G32_5 (callF prg n) (n + 1) nl (n + 1 - 1) xs os) Q) : Ev (fun n => L32_5 (callF prg n) (n + 1) nl (n + 1) x3 x13 x14 x15 os) Q := UL32_5 (c := 0) h
theorem G32_5_s (K : Nat → List SV → List SO → Out) (N nl : Nat) (m5 : Nat) (x3 x13 x14 x15 : SV) (os : List SO) : G32_5 K N nl m5 [x3, x13, x14, x15] os = GB32_5 K N nl m5 x3 x13 x14 x15 os := by kernel_rfl
theorem UG32_5 {nl : Nat} {Q : SV → List SO → Prop} (m5 : Nat → Nat) {x3 x13 x14 x15 : SV} {os : List SO} (h : Ev (fun n => GB32_5 (callF prg n) (n + 1) nl (m5 n) x3 x13 x14 x15 os) Q) : Ev (fun n => G32_5 (callF prg n) (n + 1) nl (m5 n) [x3, x13, x14, x15] os) Q := ev_eq (fun n => G32_5_s _ _ _ _ _ _ _ _ _) h
theorem L32_8_s (K : Nat → List SV → List SO → Out) (N nl : Nat) (m5 : Nat) (m8 : Nat) (x3 x13 x14 x15 x20 x21 x22 : SV) (os : List SO) : L32_8 K N nl m5 (m8 + 1) x3 x13 x14 x15 x20 x21 x22 os = gcB nl [x3, x13, x14, x15, x20, x21, x22] os fun xs os => G32_8 K N nl m5 m8 xs os := by kernel_rfl
theorem UL32_8 {nl c : Nat} {Q : SV → List SO → Prop} {m5 : Nat → Nat} {x3 x13 x14 x15 x20 x21 x22 : SV} {os : List SO} (h : Ev (fun n => gcB nl [x3, x13, x14, x15, x20, x21, x22] os fun xs os => G32_8 (callF prg n) (n + 1) nl (m5 n) (n + 1 - (c + 1)) xs os) Q) : Ev (fun n => L32_8 (callF prg n) (n + 1) nl (m5 n) (n + 1 - c) x3 x13 x14 x15 x20 x21 x22 os) Q := ev_loop (L := fun n m => L32_8 (callF prg n) (n + 1) nl (m5 n) m x3 x13 x14 x15 x20 x21 x22 os) (fun n m => L32_8_s _ _ _ _ _ _ _ _ _ _ _ _ _) h
theorem VL32_8 {nl : Nat} {Q : SV → List SO → Prop} {m5 : Nat → Nat} {x3 x13 x14 x15 x20 x21 x22 : SV} {os : List SO} (h : Ev (fun n => gcB nl [x3, x13, x14, x15, x20, x21, x22] os fun xs os => G32_8 (callF prg n) (n + 1) nl (m5 n) (n + 1 - 1) xs os) Q) : Ev (fun n => L32_8 (callF prg n) (n + 1) nl (m5 n) (n + 1) x3 x13 x14 x15 x20 x21 x22 os) Q := UL32_8 (c := 0) h
theorem G32_8_s (K : Nat → List SV → List SO → Out) (N nl : Nat) (m5 : Nat) (m8 : Nat) (x3 x13 x14 x15 x20 x21 x22 : SV) (os : List SO) : G32_8 K N nl m5 m8 [x3, x13, x14, x15, x20, x21, x22] os = GB32_8 K N nl m5 m8 x3 x13 x14 x15 x20 x21 x22 os := by kernel_rfl
theorem UG32_8 {nl : Nat} {Q : SV → List SO → Prop} {m5 : Nat → Nat} (m8 : Nat → Nat) {x3 x13 x14 x15 x20 x21 x22 : SV} {os : List SO} (h : Ev (fun n => GB32_8 (callF prg n) (n + 1) nl (m5 n) (m8 n) x3 x13 x14 x15 x20 x21 x22 os) Q) : Ev (fun n => G32_8 (callF prg n) (n + 1) nl (m5 n) (m8 n) [x3, x13, x14, x15, x20, x21, x22] os) Q := ev_eq (fun n => G32_8_s _ _ _ _ _ _ _ _ _ _ _ _ _) h
theorem X32_s (K : Nat → List SV → List SO → Out) (N nl : Nat) (x0 : SV) (os : List SO) : X32 K N nl x0 os = B32 K N nl x0 os := by kernel_rfl
theorem E32 (n : Nat) (x0 : SV) (os : List SO) : callF prg (n + 1) 32 [x0] os = X32 (callF prg n) (n + 1) os.length x0 os := by kernel_rfl
theorem U32 {Q : SV → List SO → Prop} {x0 : SV} {os : List SO} {nl : Nat} (hnl : os.length = nl) (h : Ev (fun n => B32 (callF prg n) (n + 1) nl x0 os) Q) : Ev (fun n => callF prg n 32 [x0] os) Q := by subst hnl; exact ev_fun (fun n => (E32 n _ _).trans (X32_s _ _ _ _ _)) h
theorem L33_4_s (K : Nat → List SV → List SO → Out) (N nl : Nat) (m4 : Nat) (x0 x1 x5 : SV) (os : List SO) : L33_4 K N nl (m4 + 1) x0 x1 x5 os = LB33_4 K N nl m4 x0 x1 x5 os := by kernel_rfl
theorem UL33_4 {nl c : Nat} {Q : SV → List SO → Prop} {x0 x1 x5 : SV} {os : List SO} (h : Ev (fun n => LB33_4 (callF prg n) (n + 1) nl (n + 1 - (c + 1)) x0 x1 x5 os) Q) : Ev (fun n => L33_4 (callF prg n) (n + 1) nl (n + 1 - c) x0 x1 x5 os) Q := ev_loop (L := fun n m => L33_4 (callF prg n) (n + 1) nl m x0 x1 x5 os) (fun n m => L33_4_s _ _ _ _ _ _ _ _) h
theorem VL33_4 {nl : Nat} {Q : SV → List SO → Prop} {x0 x1 x5 : SV} {os : List SO} (h : Ev (fun n => LB33_4 (callF prg n) (n + 1) nl (n + 1 - 1) x0 x1 x5 os) Q) : Ev (fun n => L33_4 (callF prg n) (n + 1) nl (n + 1) x0 x1 x5 os) Q := UL33_4 (c := 0) h
theorem X33_s (K : Nat → List SV → List SO → Out) (N nl : Nat) (x0 x1 : SV) (os : List SO) : X33 K N nl x0 x1 os = B33 K N nl x0 x1 os := by kernel_rfl
theorem E33 (n : Nat) (x0 x1 : SV) (os : List SO) : callF prg (n + 1) 33 [x0, x1] os = X33 (callF prg n) (n + 1) os.length x0 x1 os := by kernel_rfl
theorem U33 {Q : SV → List SO → Prop} {x0 x1 : SV} {os : List SO} {nl : Nat} (hnl : os.length = nl) (h : Ev (fun n => B33 (callF prg n) (n + 1) nl x0 x1 os) Q) : Ev (fun n => callF prg n 33 [x0, x1] os) Q := by subst hnl; exact ev_fun (fun n => (E33 n _ _ _).trans (X33_s _ _ _ _ _ _)) h
theorem X34_s (K : Nat → List SV → List SO → Out) (N nl : Nat) (x0 : SV) (os : List SO) : X34 K N nl x0 os = B34 K N nl x0 os := by kernel_rfl
theorem E34 (n : Nat) (x0 : SV) (os : List SO) : callF prg (n + 1) 34 [x0] os = X34 (callF prg n) (n + 1) os.length x0 os := by kernel_rfl
theorem U34 {Q : SV → List SO → Prop} {x0 : SV} {os : List SO} {nl : Nat} (hnl : os.length = nl) (h : Ev (fun n => B34 (callF prg n) (n + 1) nl x0 os) Q) : Ev (fun n => callF prg n 34 [x0] os) Q := by subst hnl; exact ev_fun (fun n => (E34 n _ _).trans (X34_s _ _ _ _ _)) h
theorem L35_4_s (K : Nat → List SV → List SO → Out) (N nl : Nat) (m4 : Nat) (x0 x1 x5 : SV) (os : List SO) : L35_4 K N nl (m4 + 1) x0 x1 x5 os = LB35_4 K N nl m4 x0 x1 x5 os := by kernel_rfl
theorem UL35_4 {nl c : Nat} {Q : SV → List SO → Prop} {x0 x1 x5 : SV} {os : List SO} (h : Ev (fun n => LB35_4 (callF prg n) (n + 1) nl (n + 1 - (c + 1)) x0 x1 x5 os) Q) : Ev (fun n => L35_4 (callF prg n) (n + 1) nl (n + 1 - c) x0 x1 x5 os) Q := ev_loop (L := fun n m => L35_4 (callF prg n) (n + 1) nl m x0 x1 x5 os) (fun n m => L35_4_s _ _ _ _ _ _ _ _) h
theorem VL35_4 {nl : Nat} {Q : SV → List SO → Prop} {x0 x1 x5 : SV} {os : List SO} (h : Ev (fun n => LB35_4 (callF prg n) (n + 1) nl (n + 1 - 1) x0 x1 x5 os) Q) : Ev (fun n => L35_4 (callF prg n) (n + 1) nl (n + 1) x0 x1 x5 os) Q := UL35_4 (c := 0) h
theorem X35_s (K : Nat → List SV → List SO → Out) (N nl : Nat) (x0 x1 : SV) (os : List SO) : X35 K N nl x0 x1 os = B35 K N nl x0 x1 os := by kernel_rfl
theorem E35 (n : Nat) (x0 x1 : SV) (os : List SO) : callF prg (n + 1) 35 [x0, x1] os = X35 (callF prg n) (n + 1) os.length x0 x1 os := by kernel_rfl
theorem U35 {Q : SV → List SO → Prop} {x0 x1 : SV} {os : List SO} {nl : Nat} (hnl : os.length = nl) (h : Ev (fun n => B35 (callF prg n) (n + 1) nl x0 x1 os) Q) : Ev (fun n => callF prg n 35 [x0, x1] os) Q := by subst hnl; exact ev_fun (fun n => (E35 n _ _ _).trans (X35_s _ _ _ _ _ _)) h
theorem L36_2_s (K : Nat → List SV → List SO → Out) (N nl : Nat) (m2 : Nat) (x0 x1 x5 : SV) (os : List SO) : L36_2 K N nl (m2 + 1) x0 x1 x5 os = LB36_2 K N nl m2 x0 x1 x5 os := by kernel_rfl
theorem UL36_2 {nl c : Nat} {Q : SV → List SO → Prop} {x0 x1 x5 : SV} {os : List SO} (h : Ev (fun n => LB36_2 (callF prg n) (n + 1) nl (n + 1 - (c + 1)) x0 x1 x5 os) Q) : Ev (fun n => L36_2 (callF prg n) (n + 1) nl (n + 1 - c) x0 x1 x5 os) Q := ev_loop (L := fun n m => L36_2 (callF prg n) (n + 1) nl m x0 x1 x5 os) (fun n m => L36_2_s _ _ _ _ _ _ _ _) h
theorem VL36_2 {nl : Nat} {Q : SV → List SO → Prop} {x0 x1 x5 : SV} {os : List SO} (h : Ev (fun n => LB36_2 (callF prg n) (n + 1) nl (n + 1 - 1) x0 x1 x5 os) Q) : Ev (fun n => L36_2 (callF prg n) (n + 1) nl (n + 1) x0 x1 x5 os) Q := UL36_2 (c := 0) h
theorem X36_s (K : Nat → List SV → List SO → Out) (N nl : Nat) (x0 x1 : SV) (os : List SO) : X36 K N nl x0 x1 os = B36 K N nl x0 x1 os := by kernel_rfl
theorem E36 (n : Nat) (x0 x1 : SV) (os : List SO) : callF prg (n + 1) 36 [x0, x1] os = X36 (callF prg n) (n + 1) os.length x0 x1 os := by kernel_rfl
theorem U36 {Q : SV → List SO → Prop} {x0 x1 : SV} {os : List SO} {nl : Nat} (hnl : os.length = nl) (h : Ev (fun n => B36 (callF prg n) (n + 1) nl x0 x1 os) Q) : Ev (fun n => callF prg n 36 [x0, x1] os) Q := by subst hnl; exact ev_fun (fun n => (E36 n _ _ _).trans (X36_s _ _ _ _ _ _)) h
theorem L37_2_s (K : Nat → List SV → List SO → Out) (N nl : Nat) (m2 : Nat) (x0 x1 x5 : SV) (os : List SO) : L37_2 K N nl (m2 + 1) x0 x1 x5 os = LB37_2 K N nl m2 x0 x1 x5 os := by kernel_rfl
theorem UL37_2 {nl c : Nat} {Q : SV → List SO → Prop} {x0 x1 x5 : SV} {os : List SO} (h : Ev (fun n => LB37_2 (callF prg n) (n + 1) nl (n + 1 - (c + 1)) x0 x1 x5 os) Q) : Ev (fun n => L37_2 (callF prg n) (n + 1) nl (n + 1 - c) x0 x1 x5 os) Q := ev_loop (L := fun n m => L37_2 (callF prg n) (n + 1) nl m x0 x1 x5 os) (fun n m => L37_2_s _ _ _ _ _ _ _ _) h
theorem VL37_2 {nl : Nat} {Q : SV → List SO → Prop} {x0 x1 x5 : SV} {os : List SO} (h : Ev (fun n => LB37_2 (callF prg n) (n + 1) nl (n + 1 - 1) x0 x1 x5 os) Q) : Ev (fun n => L37_2 (callF prg n) (n + 1) nl (n + 1) x0 x1 x5 os) Q := UL37_2 (c := 0) h
theorem X37_s (K : Nat → List SV → List SO → Out) (N nl : Nat) (x0 x1 : SV) (os : List SO) : X37 K N nl x0 x1 os = B37 K N nl x0 x1 os := by kernel_rfl
theorem E37 (n : Nat) (x0 x1 : SV) (os : List SO) : callF prg (n + 1) 37 [x0, x1] os = X37 (callF prg n) (n + 1) os.length x0 x1 os := by kernel_rfl
theorem U37 {Q : SV → List SO → Prop} {x0 x1 : SV} {os : List SO} {nl : Nat} (hnl : os.length = nl) (h : Ev (fun n => B37 (callF prg n) (n + 1) nl x0 x1 os) Q) : Ev (fun n => callF prg n 37 [x0, x1] os) Q := by subst hnl; exact ev_fun (fun n => (E37 n _ _ _).trans (X37_s _ _ _ _ _ _)) h
theorem X38_s (K : Nat → List SV → List SO → Out) (N nl : Nat) (os : List SO) : X38 K N nl os = B38 K N nl os := by kernel_rfl
theorem E38 (n : Nat) (os : List SO) : callF prg (n + 1) 38 [] os = X38 (callF prg n) (n + 1) os.length os := by kernel_rfl
theorem U38 {Q : SV → List SO → Prop} {os : List SO} {nl : Nat} (hnl : os.length = nl) (h : Ev (fun n => B38 (callF prg n) (n + 1) nl os) Q) : Ev (fun n => callF prg n 38 [] os) Q := by subst hnl; exact ev_fun (fun n => (E38 n _).trans (X38_s _ _ _ _)) h
theorem X39_s (K : Nat → List SV → List SO → Out) (N nl : Nat) (os : List SO) : X39 K N nl os = B39 K N nl os := by kernel_rfl
theorem E39 (n : Nat) (os : List SO) : callF prg (n + 1) 39 [] os = X39 (callF prg n) (n + 1) os.length os := by kernel_rfl
theorem U39 {Q : SV → List SO → Prop} {os : List SO} {nl : Nat} (hnl : os.length = nl) (h : Ev (fun n => B39 (callF prg n) (n + 1) nl os) Q) : Ev (fun n => callF prg n 39 [] os) Q := by subst hnl; exact ev_fun (fun n => (E39 n _).trans (X39_s _ _ _ _)) h
theorem X40_s (K : Nat → List SV → List SO → Out) (N nl : Nat) (x0 x1 : SV) (os : List SO) : X40 K N nl x0 x1 os = B40 K N nl x0 x1 os := by kernel_rfl
theorem E40 (n : Nat) (x0 x1 : SV) (os : List SO) : callF prg (n + 1) 40 [x0, x1] os = X40 (callF prg n) (n + 1) os.length x0 x1 os := by kernel_rfl
theorem U40 {Q : SV → List SO → Prop} {x0 x1 : SV} {os : List SO} {nl : Nat} (hnl : os.length = nl) (h : Ev (fun n => B40 (callF prg n) (n + 1) nl x0 x1 os) Q) : Ev (fun n => callF prg n 40 [x0, x1] os) Q := by subst hnl; exact ev_fun (fun n => (E40 n _ _ _).trans (X40_s _ _ _ _ _ _)) h
theorem X41_s (K : Nat → List SV → List SO → Out) (N nl : Nat) (x0 x1 : SV) (os : List SO) : X41 K N nl x0 x1 os = B41 K N nl x0 x1 os := by kernel_rfl
theorem E41 (n : Nat) (x0 x1 : SV) (os : List SO) : callF prg (n + 1) 41 [x0, x1] os = X41 (callF prg n) (n + 1) os.length x0 x1 os := by kernel_rfl
theorem U41 {Q : SV → List SO → Prop} {x0 x1 : SV} {os : List SO} {nl : Nat} (hnl : os.length = nl) (h : Ev (fun n => B41 (callF prg n) (n + 1) nl x0 x1 os) Q) : Ev (fun n => callF prg n 41 [x0, x1] os) Q := by subst hnl; exact ev_fun (fun n => (E41 n _ _ _).trans (X41_s _ _ _ _ _ _)) h
theorem X42_s (K : Nat → List SV → List SO → Out) (N nl : Nat) (x0 x1 : SV) (os : List SO) : X42 K N nl x0 x1 os = B42 K N nl x0 x1 os := by kernel_rfl
theorem E42 (n : Nat) (x0 x1 : SV) (os : List SO) : callF prg (n + 1) 42 [x0, x1] os = X42 (callF prg n) (n + 1) os.length x0 x1 os := by kernel_rfl
theorem U42 {Q : SV → List SO → Prop} {x0 x1 : SV} {os : List SO} {nl : Nat} (hnl : os.length = nl) (h : Ev (fun n => B42 (callF prg n) (n + 1) nl x0 x1 os) Q) : Ev (fun n => callF prg n 42 [x0, x1] os) Q := by subst hnl; exact ev_fun (fun n => (E42 n _ _ _).trans (X42_s _ _ _ _ _ _)) h
theorem X43_s (K : Nat → List SV → List SO → Out) (N nl : Nat) (x0 x1 : SV) (os : List SO) : X43 K N nl x0 x1 os = B43 K N nl x0 x1 os := by kernel_rfl
theorem E43 (n : Nat) (x0 x1 : SV) (os : List SO) : callF prg (n + 1) 43 [x0, x1] os = X43 (callF prg n) (n + 1) os.length x0 x1 os := by kernel_rfl
theorem U43 {Q : SV → List SO → Prop} {x0 x1 : SV} {os : List SO} {nl : Nat} (hnl : os.length = nl) (h : Ev (fun n => B43 (callF prg n) (n + 1) nl x0 x1 os) Q) : Ev (fun n => callF prg n 43 [x0, x1] os) Q := by subst hnl; exact ev_fun (fun n => (E43 n _ _ _).trans (X43_s _ _ _ _ _ _)) h
theorem L44_2_s (K : Nat → List SV → List SO → Out) (N nl : Nat) (m2 : Nat) (x1 x3 : SV) (os : List SO) : L44_2 K N nl (m2 + 1) x1 x3 os = LB44_2 K N nl m2 x1 x3 os := by kernel_rfl
theorem UL44_2 {nl c : Nat} {Q : SV → List SO → Prop} {x1 x3 : SV} {os : List SO} (h : Ev (fun n => LB44_2 (callF prg n) (n + 1) nl (n + 1 - (c + 1)) x1 x3 os) Q) : Ev (fun n => L44_2 (callF prg n) (n + 1) nl (n + 1 - c) x1 x3 os) Q := ev_loop (L := fun n m => L44_2 (callF prg n) (n + 1) nl m x1 x3 os) (fun n m => L44_2_s _ _ _ _ _ _ _) h
theorem VL44_2 {nl : Nat} {Q : SV → List SO → Prop} {x1 x3 : SV} {os : List SO} (h : Ev (fun n => LB44_2 (callF prg n) (n + 1) nl (n + 1 - 1) x1 x3 os) Q) : Ev (fun n => L44_2 (callF prg n) (n + 1) nl (n + 1) x1 x3 os) Q := UL44_2 (c := 0) h
theorem X44_s (K : Nat → List SV → List SO → Out) (N nl : Nat) (x0 : SV) (os : List SO) : X44 K N nl x0 os = B44 K N nl x0 os := by kernel_rfl
theorem E44 (n : Nat) (x0 : SV) (os : List SO) : callF prg (n + 1) 44 [x0] os = X44 (callF prg n) (n + 1) os.length x0 os := by kernel_rfl
theorem U44 {Q : SV → List SO → Prop} {x0 : SV} {os : List SO} {nl : Nat} (hnl : os.length = nl) (h : Ev (fun n => B44 (callF prg n) (n + 1) nl x0 os) Q) : Ev (fun n => callF prg n 44 [x0] os) Q := by subst hnl; exact ev_fun (fun n => (E44 n _ _).trans (X44_s _ _ _ _ _)) h
theorem X45_s (K : Nat → List SV → List SO → Out) (N nl : Nat) (x0 : SV) (os : List SO) : X45 K N nl x0 os = B45 K N nl x0 os := by kernel_rfl
theorem E45 (n : Nat) (x0 : SV) (os : List SO) : callF prg (n + 1) 45 [x0] os = X45 (callF prg n) (n + 1) os.length x0 os := by kernel_rfl
theorem U45 {Q : SV → List SO → Prop} {x0 : SV} {os : List SO} {nl : Nat} (hnl : os.length = nl) (h : Ev (fun n => B45 (callF prg n) (n + 1) nl x0 os) Q) : Ev (fun n => callF prg n 45 [x0] os) Q := by subst hnl; exact ev_fun (fun n => (E45 n _ _).trans (X45_s _ _ _ _ _)) h
theorem X46_s (K : Nat → List SV → List SO → Out) (N nl : Nat) (x0 : SV) (os : List SO) : X46 K N nl x0 os = B46 K N nl x0 os := by kernel_rfl
theorem E46 (n : Nat) (x0 : SV) (os : List SO) : callF prg (n + 1) 46 [x0] os = X46 (callF prg n) (n + 1) os.length x0 os := by kernel_rfl
theorem U46 {Q : SV → List SO → Prop} {x0 : SV} {os : List SO} {nl : Nat} (hnl : os.length = nl) (h : Ev (fun n => B46 (callF prg n) (n + 1) nl x0 os) Q) : Ev (fun n => callF prg n 46 [x0] os) Q := by subst hnl; exact ev_fun (fun n => (E46 n _ _).trans (X46_s _ _ _ _ _)) h
theorem X47_s (K : Nat → List SV → List SO → Out) (N nl : Nat) (x0 : SV) (os : List SO) : X47 K N nl x0 os = B47 K N nl x0 os := by kernel_rfl
theorem E47 (n : Nat) (x0 : SV) (os : List SO) : callF prg (n + 1) 47 [x0] os = X47 (callF prg n) (n + 1) os.length x0 os := by kernel_rfl
theorem U47 {Q : SV → List SO → Prop} {x0 : SV} {os : List SO} {nl : Nat} (hnl : os.length = nl) (h : Ev (fun n => B47 (callF prg n) (n + 1) nl x0 os) Q) : Ev (fun n => callF prg n 47 [x0] os) Q := by subst hnl; exact ev_fun (fun n => (E47 n _ _).trans (X47_s _ _ _ _ _)) h
theorem X48_s (K : Nat → List SV → List SO → Out) (N nl : Nat) (x0 : SV) (os : List SO) : X48 K N nl x0 os = B48 K N nl x0 os := by kernel_rfl
theorem E48 (n : Nat) (x0 : SV) (os : List SO) : callF prg (n + 1) 48 [x0] os = X48 (callF prg n) (n + 1) os.length x0 os := by kernel_rfl
theorem U48 {Q : SV → List SO → Prop} {x0 : SV} {os : List SO} {nl : Nat} (hnl : os.length = nl) (h : Ev (fun n => B48 (callF prg n) (n + 1) nl x0 os) Q) : Ev (fun n => callF prg n 48 [x0] os) Q := by subst hnl; exact ev_fun (fun n => (E48 n _ _).trans (X48_s _ _ _ _ _)) h
theorem J49_3_s (K : Nat → List SV → List SO → Out) (N nl : Nat) (x0 : SV) (os : List SO) : J49_3 K N nl x0 os = JB49_3 K N nl x0 os := by kernel_rfl
theorem UJ49_3 {nl : Nat} {Q : SV → List SO → Prop} {x0 : SV} {os : List SO} (h : Ev (fun n => JB49_3 (callF prg n) (n + 1) nl x0 os) Q) : Ev (fun n => J49_3 (callF prg n) (n + 1) nl x0 os) Q := ev_eq (fun n => J49_3_s _ _ _ _ _) h
theorem X49_s (K : Nat → List SV → List SO → Out) (N nl : Nat) (x0 : SV) (os : List SO) : X49 K N nl x0 os = B49 K N nl x0 os := by kernel_rfl
theorem E49 (n : Nat) (x0 : SV) (os : List SO) : callF prg (n + 1) 49 [x0] os = X49 (callF prg n) (n + 1) os.length x0 os := by kernel_rfl
theorem U49 {Q : SV → List SO → Prop} {x0 : SV} {os : List SO} {nl : Nat} (hnl : os.length = nl) (h : Ev (fun n => B49 (callF prg n) (n + 1) nl x0 os) Q) : Ev (fun n => callF prg n 49 [x0] os) Q := by subst hnl; exact ev_fun (fun n => (E49 n _ _).trans (X49_s _ _ _ _ _)) h
theorem J50_8_s (K : Nat → List SV → List SO → Out) (N nl : Nat) (x3 : SV) (os : List SO) : J50_8 K N nl x3 os = JB50_8 K N nl x3 os := by kernel_rfl
theorem UJ50_8 {nl : Nat} {Q : SV → List SO → Prop} {x3 : SV} {os : List SO} (h : Ev (fun n => JB50_8 (callF prg n) (n + 1) nl x3 os) Q) : Ev (fun n => J50_8 (callF prg n) (n + 1) nl x3 os) Q := ev_eq (fun n => J50_8_s _ _ _ _ _) h
theorem X50_s (K : Nat → List SV → List SO → Out) (N nl : Nat) (x0 : SV) (os : List SO) : X50 K N nl x0 os = B50 K N nl x0 os := by kernel_rfl
theorem E50 (n : Nat) (x0 : SV) (os : List SO) : callF prg (n + 1) 50 [x0] os = X50 (callF prg n) (n + 1) os.length x0 os := by kernel_rfl
theorem U50 {Q : SV → List SO → Prop} {x0 : SV} {os : List SO} {nl : Nat} (hnl : os.length = nl) (h : Ev (fun n => B50 (callF prg n) (n + 1) nl x0 os) Q) : Ev (fun n => callF prg n 50 [x0] os) Q := by subst hnl; exact ev_fun (fun n => (E50 n _ _).trans (X50_s _ _ _ _ _)) h
theorem X51_s (K : Nat → List SV → List SO → Out) (N nl : Nat) (x0 x1 : SV) (os : List SO) : X51 K N nl x0 x1 os = B51 K N nl x0 x1 os := by kernel_rfl
theorem E51 (n : Nat) (x0 x1 : SV) (os : List SO) : callF prg (n + 1) 51 [x0, x1] os = X51 (callF prg n) (n + 1) os.length x0 x1 os := by kernel_rfl
theorem U51 {Q : SV → List SO → Prop} {x0 x1 : SV} {os : List SO} {nl : Nat} (hnl : os.length = nl) (h : Ev (fun n => B51 (callF prg n) (n + 1) nl x0 x1 os) Q) : Ev (fun n => callF prg n 51 [x0, x1] os) Q := by subst hnl; exact ev_fun (fun n => (E51 n _ _ _).trans (X51_s _ _ _ _ _ _)) h
theorem L52_2_s (K : Nat → List SV → List SO → Out) (N nl : Nat) (m2 : Nat) (x0 x1 x4 x6 : SV) (os : List SO) : L52_2 K N nl (m2 + 1) x0 x1 x4 x6 os = gcB nl [x0, x1, x4, x6] os fun xs os => G52_2 K N nl m2 xs os := by kernel_rfl
theorem UL52_2 {nl c : Nat} {Q : SV → List SO → Prop} {x0 x1 x4 x6 : SV} {os : List SO} (h : Ev (fun n => gcB nl [x0, x1, x4, x6] os fun xs os => G52_2 (callF prg n) (n + 1) nl (n + 1 - (c + 1)) xs os) Q) : Ev (fun n => L52_2 (callF prg n) (n + 1) nl (n + 1 - c) x0 x1 x4 x6 os) Q := ev_loop (L := fun n m => L52_2 (callF prg n) (n + 1) nl m x0 x1 x4 x6 os) (fun n m => L52_2_s _ _ _ _ _ _ _ _ _) h
theorem VL52_2 {nl : Nat} {Q : SV → List SO → Prop} {x0 x1 x4 x6 : SV} {os : List SO} (h : Ev (fun n => gcB nl [x0, x1, x4, x6] os fun xs os => G52_2 (callF prg n) (n + 1) nl (n + 1 - 1) xs os) Q) : Ev (fun n => L52_2 (callF prg n) (n + 1) nl (n + 1) x0 x1 x4 x6 os) Q := UL52_2 (c := 0) h
theorem G52_2_s (K : Nat → List SV → List SO → Out) (N nl : Nat) (m2 : Nat) (x0 x1 x4 x6 : SV) (os : List SO) : G52_2 K N nl m2 [x0, x1, x4, x6] os = GB52_2 K N nl m2 x0 x1 x4 x6 os := by kernel_rfl
theorem UG52_2 {nl : Nat} {Q : SV → List SO → Prop} (m2 : Nat → Nat) {x0 x1 x4 x6 : SV} {os : List SO} (h : Ev (fun n => GB52_2 (callF prg n) (n + 1) nl (m2 n) x0 x1 x4 x6 os) Q) : Ev (fun n => G52_2 (callF prg n) (n + 1) nl (m2 n) [x0, x1, x4, x6] os) Q := ev_eq (fun n => G52_2_s _ _ _ _ _ _ _ _ _) h
theorem X52_s (K : Nat → List SV → List SO → Out) (N nl : Nat) (x0 x1 : SV) (os : List SO) : X52 K N nl x0 x1 os = B52 K N nl x0 x1 os := by kernel_rfl
theorem E52 (n : Nat) (x0 x1 : SV) (os : List SO) : callF prg (n + 1) 52 [x0, x1] os = X52 (callF prg n) (n + 1) os.length x0 x1 os := by kernel_rfl
theorem U52 {Q : SV → List SO → Prop} {x0 x1 : SV} {os : List SO} {nl : Nat} (hnl : os.length = nl) (h : Ev (fun n => B52 (callF prg n) (n + 1) nl x0 x1 os) Q) : Ev (fun n => callF prg n 52 [x0, x1] os) Q := by subst hnl; exact ev_fun (fun n => (E52 n _ _ _).trans (X52_s _ _ _ _ _ _)) h
theorem L53_2_s (K : Nat → List SV → List SO → Out) (N nl : Nat) (m2 : Nat) (x0 x5 x6 x7 : SV) (os : List SO) : L53_2 K N nl (m2 + 1) x0 x5 x6 x7 os = gcB nl [x0, x5, x6, x7] os fun xs os => G53_2 K N nl m2 xs os := by kernel_rfl
theorem UL53_2 {nl c : Nat} {Q : SV → List SO → Prop} {x0 x5 x6 x7 : SV} {os : List SO} (h : Ev (fun n => gcB nl [x0, x5, x6, x7] os fun xs os => G53_2 (callF prg n) (n + 1) nl (n + 1 - (c + 1)) xs os) Q) : Ev (fun n => L53_2 (callF prg n) (n + 1) nl (n + 1 - c) x0 x5 x6 x7 os) Q := ev_loop (L := fun n m => L53_2 (callF prg n) (n + 1) nl m x0 x5 x6 x7 os) (fun n m => L53_2_s _ _ _ _ _ _ _ _ _) h
theorem VL53_2 {nl : Nat} {Q : SV → List SO → Prop} {x0 x5 x6 x7 : SV} {os : List SO} (h : Ev (fun n => gcB nl [x0, x5, x6, x7] os fun xs os => G53_2 (callF prg n) (n + 1) nl (n + 1 - 1) xs os) Q) : Ev (fun n => L53_2 (callF prg n) (n + 1) nl (n + 1) x0 x5 x6 x7 os) Q := UL53_2 (c := 0) h
theorem G53_2_s (K : Nat → List SV → List SO → Out) (N nl : Nat) (m2 : Nat) (x0 x5 x6 x7 : SV) (os : List SO) : G53_2 K N nl m2 [x0, x5, x6, x7] os = GB53_2 K N nl m2 x0 x5 x6 x7 os := by kernel_rfl
theorem UG53_2 {nl : Nat} {Q : SV → List SO → Prop} (m2 : Nat → Nat) {x0 x5 x6 x7 : SV} {os : List SO} (h : Ev (fun n => GB53_2 (callF prg n) (n + 1) nl (m2 n) x0 x5 x6 x7 os) Q) : Ev (fun n => G53_2 (callF prg n) (n + 1) nl (m2 n) [x0, x5, x6, x7] os) Q := ev_eq (fun n => G53_2_s _ _ _ _ _ _ _ _ _) h
theorem X53_s (K : Nat → List SV → List SO → Out) (N nl : Nat) (x0 : SV) (os : List SO) : X53 K N nl x0 os = B53 K N nl x0 os := by kernel_rfl
theorem E53 (n : Nat) (x0 : SV) (os : List SO) : callF prg (n + 1) 53 [x0] os = X53 (callF prg n) (n + 1) os.length x0 os := by kernel_rfl
theorem U53 {Q : SV → List SO → Prop} {x0 : SV} {os : List SO} {nl : Nat} (hnl : os.length = nl) (h : Ev (fun n => B53 (callF prg n) (n + 1) nl x0 os) Q) : Ev (fun n => callF prg n 53 [x0] os) Q := by subst hnl; exact ev_fun (fun n => (E53 n _ _).trans (X53_s _ _ _ _ _)) h
theorem L54_3_s (K : Nat → List SV → List SO → Out) (N nl : Nat) (m3 : Nat) (x1 x5 x8 x9 x10 : SV) (os : List SO) : L54_3 K N nl (m3 + 1) x1 x5 x8 x9 x10 os = gcB nl [x1, x5, x8, x9, x10] os fun xs os => G54_3 K N nl m3 xs os := by kernel_rfl
theorem UL54_3 {nl c : Nat} {Q : SV → List SO → Prop} {x1 x5 x8 x9 x10 : SV} {os : List SO} (h : Ev (fun n => gcB nl [x1, x5, x8, x9, x10] os fun xs os => G54_3 (callF prg n) (n + 1) nl (n + 1 - (c + 1)) xs os) Q) : Ev (fun n => L54_3 (callF prg n) (n + 1) nl (n + 1 - c) x1 x5 x8 x9 x10 os) Q := ev_loop (L := fun n m => L54_3 (callF prg n) (n + 1) nl m x1 x5 x8 x9 x10 os) (fun n m => L54_3_s _ _ _ _ _ _ _ _ _ _) h
theorem VL54_3 {nl : Nat} {Q : SV → List SO → Prop} {x1 x5 x8 x9 x10 : SV} {os : List SO} (h : Ev (fun n => gcB nl [x1, x5, x8, x9, x10] os fun xs os => G54_3 (callF prg n) (n + 1) nl (n + 1 - 1) xs os) Q) : Ev (fun n => L54_3 (callF prg n) (n + 1) nl (n + 1) x1 x5 x8 x9 x10 os) Q := UL54_3 (c := 0) h
theorem G54_3_s (K : Nat → List SV → List SO → Out) (N nl : Nat) (m3 : Nat) (x1 x5 x8 x9 x10 : SV) (os : List SO) : G54_3 K N nl m3 [x1, x5, x8, x9, x10] os = GB54_3 K N nl m3 x1 x5 x8 x9 x10 os := by kernel_rfl
theorem UG54_3 {nl : Nat} {Q : SV → List SO → Prop} (m3 : Nat → Nat) {x1 x5 x8 x9 x10 : SV} {os : List SO} (h : Ev (fun n => GB54_3 (callF prg n) (n + 1) nl (m3 n) x1 x5 x8 x9 x10 os) Q) : Ev (fun n => G54_3 (callF prg n) (n + 1) nl (m3 n) [x1, x5, x8, x9, x10] os) Q := ev_eq (fun n => G54_3_s _ _ _ _ _ _ _ _ _ _) h
theorem J54_7_s (K : Nat → List SV → List SO → Out) (N nl : Nat) (m3 : Nat) (x1 x5 x8 x9 x10 : SV) (os : List SO) : J54_7 K N nl m3 x1 x5 x8 x9 x10 os = JB54_7 K N nl m3 x1 x5 x8 x9 x10 os := by kernel_rfl
theorem UJ54_7 {nl : Nat} {Q : SV → List SO → Prop} {m3 : Nat → Nat} {x1 x5 x8 x9 x10 : SV} {os : List SO} (h : Ev (fun n => JB54_7 (callF prg n) (n + 1) nl (m3 n) x1 x5 x8 x9 x10 os) Q) : Ev (fun n => J54_7 (callF prg n) (n + 1) nl (m3 n) x1 x5 x8 x9 x10 os) Q := ev_eq (fun n => J54_7_s _ _ _ _ _ _ _ _ _ _) h
theorem X54_s (K : Nat → List SV → List SO → Out) (N nl : Nat) (x0 x1 : SV) (os : List SO) : X54 K N nl x0 x1 os = B54 K N nl x0 x1 os := by kernel_rfl
theorem E54 (n : Nat) (x0 x1 : SV) (os : List SO) : callF prg (n + 1) 54 [x0, x1] os = X54 (callF prg n) (n + 1) os.length x0 x1 os := by kernel_rfl
theorem U54 {Q : SV → List SO → Prop} {x0 x1 : SV} {os : List SO} {nl : Nat} (hnl : os.length = nl) (h : Ev (fun n => B54 (callF prg n) (n + 1) nl x0 x1 os) Q) : Ev (fun n => callF prg n 54 [x0, x1] os) Q := by subst hnl; exact ev_fun (fun n => (E54 n _ _ _).trans (X54_s _ _ _ _ _ _)) h
theorem X55_s (K : Nat → List SV → List SO → Out) (N nl : Nat) (x0 : SV) (os : List SO) : X55 K N nl x0 os = B55 K N nl x0 os := by kernel_rfl
theorem E55 (n : Nat) (x0 : SV) (os : List SO) : callF prg (n + 1) 55 [x0] os = X55 (callF prg n) (n + 1) os.length x0 os := by kernel_rfl
theorem U55 {Q : SV → List SO → Prop} {x0 : SV} {os : List SO} {nl : Nat} (hnl : os.length = nl) (h : Ev (fun n => B55 (callF prg n) (n + 1) nl x0 os) Q) : Ev (fun n => callF prg n 55 [x0] os) Q := by subst hnl; exact ev_fun (fun n => (E55 n _ _).trans (X55_s _ _ _ _ _)) h
theorem L56_2_s (K : Nat → List SV → List SO → Out) (N nl : Nat) (m2 : Nat) (x0 x3 : SV) (os : List SO) : L56_2 K N nl (m2 + 1) x0 x3 os = LB56_2 K N nl m2 x0 x3 os := by kernel_rfl
theorem UL56_2 {nl c : Nat} {Q : SV → List SO → Prop} {x0 x3 : SV} {os : List SO} (h : Ev (fun n => LB56_2 (callF prg n) (n + 1) nl (n + 1 - (c + 1)) x0 x3 os) Q) : Ev (fun n => L56_2 (callF prg n) (n + 1) nl (n + 1 - c) x0 x3 os) Q := ev_loop (L := fun n m => L56_2 (callF prg n) (n + 1) nl m x0 x3 os) (fun n m => L56_2_s _ _ _ _ _ _ _) h
theorem VL56_2 {nl : Nat} {Q : SV → List SO → Prop} {x0 x3 : SV} {os : List SO} (h : Ev (fun n => LB56_2 (callF prg n) (n + 1) nl (n + 1 - 1) x0 x3 os) Q) : Ev (fun n => L56_2 (callF prg n) (n + 1) nl (n + 1) x0 x3 os) Q := UL56_2 (c := 0) h
theorem X56_s (K : Nat → List SV → List SO → Out) (N nl : Nat) (x0 : SV) (os : List SO) : X56 K N nl x0 os = B56 K N nl x0 os := by kernel_rfl
theorem E56 (n : Nat) (x0 : SV) (os : List SO) : callF prg (n + 1) 56 [x0] os = X56 (callF prg n) (n + 1) os.length x0 os := by kernel_rfl
theorem U56 {Q : SV → List SO → Prop} {x0 : SV} {os : List SO} {nl : Nat} (hnl : os.length = nl) (h : Ev (fun n => B56 (callF prg n) (n + 1) nl x0 os) Q) : Ev (fun n => callF prg n 56 [x0] os) Q := by subst hnl; exact ev_fun (fun n => (E56 n _ _).trans (X56_s _ _ _ _ _)) h
theorem X57_s (K : Nat → List SV → List SO → Out) (N nl : Nat) (x0 x1 : SV) (os : List SO) : X57 K N nl x0 x1 os = B57 K N nl x0 x1 os := by kernel_rfl
theorem E57 (n : Nat) (x0 x1 : SV) (os : List SO) : callF prg (n + 1) 57 [x0, x1] os = X57 (callF prg n) (n + 1) os.length x0 x1 os := by kernel_rfl
theorem U57 {Q : SV → List SO → Prop} {x0 x1 : SV} {os : List SO} {nl : Nat} (hnl : os.length = nl) (h : Ev (fun n => B57 (callF prg n) (n + 1) nl x0 x1 os) Q) : Ev (fun n => callF prg n 57 [x0, x1] os) Q := by subst hnl; exact ev_fun (fun n => (E57 n _ _ _).trans (X57_s _ _ _ _ _ _)) h
theorem L58_2_s (K : Nat → List SV → List SO → Out) (N nl : Nat) (m2 : Nat) (x0 x3 : SV) (os : List SO) : L58_2 K N nl (m2 + 1) x0 x3 os = LB58_2 K N nl m2 x0 x3 os := by kernel_rfl
theorem UL58_2 {nl c : Nat} {Q : SV → List SO → Prop} {x0 x3 : SV} {os : List SO} (h : Ev (fun n => LB58_2 (callF prg n) (n + 1) nl (n + 1 - (c + 1)) x0 x3 os) Q) : Ev (fun n => L58_2 (callF prg n) (n + 1) nl (n + 1 - c) x0 x3 os) Q := ev_loop (L := fun n m => L58_2 (callF prg n) (n + 1) nl m x0 x3 os) (fun n m => L58_2_s _ _ _ _ _ _ _) h
theorem VL58_2 {nl : Nat} {Q : SV → List SO → Prop} {x0 x3 : SV} {os : List SO} (h : Ev (fun n => LB58_2 (callF prg n) (n + 1) nl (n + 1 - 1) x0 x3 os) Q) : Ev (fun n => L58_2 (callF prg n) (n + 1) nl (n + 1) x0 x3 os) Q := UL58_2 (c := 0) h
theorem X58_s (K : Nat → List SV → List SO → Out) (N nl : Nat) (x0 : SV) (os : List SO) : X58 K N nl x0 os = B58 K N nl x0 os := by kernel_rfl
theorem E58 (n : Nat) (x0 : SV) (os : List SO) : callF prg (n + 1) 58 [x0] os = X58 (callF prg n) (n + 1) os.length x0 os := by kernel_rfl
theorem U58 {Q : SV → List SO → Prop} {x0 : SV} {os : List SO} {nl : Nat} (hnl : os.length = nl) (h : Ev (fun n => B58 (callF prg n) (n + 1) nl x0 os) Q) : Ev (fun n => callF prg n 58 [x0] os) Q := by subst hnl; exact ev_fun (fun n => (E58 n _ _).trans (X58_s _ _ _ _ _)) h
theorem X59_s (K : Nat → List SV → List SO → Out) (N nl : Nat) (x0 x1 : SV) (os : List SO) : X59 K N nl x0 x1 os = B59 K N nl x0 x1 os := by kernel_rfl
theorem E59 (n : Nat) (x0 x1 : SV) (os : List SO) : callF prg (n + 1) 59 [x0, x1] os = X59 (callF prg n) (n + 1) os.length x0 x1 os := by kernel_rfl
theorem U59 {Q : SV → List SO → Prop} {x0 x1 : SV} {os : List SO} {nl : Nat} (hnl : os.length = nl) (h : Ev (fun n => B59 (callF prg n) (n + 1) nl x0 x1 os) Q) : Ev (fun n => callF prg n 59 [x0, x1] os) Q := by subst hnl; exact ev_fun (fun n => (E59 n _ _ _).trans (X59_s _ _ _ _ _ _)) h
theorem L60_2_s (K : Nat → List SV → List SO → Out) (N nl : Nat) (m2 : Nat) (x0 x1 x2 x7 : SV) (os : List SO) : L60_2 K N nl (m2 + 1) x0 x1 x2 x7 os = LB60_2 K N nl m2 x0 x1 x2 x7 os := by kernel_rfl
theorem UL60_2 {nl c : Nat} {Q : SV → List SO → Prop} {x0 x1 x2 x7 : SV} {os : List SO} (h : Ev (fun n => LB60_2 (callF prg n) (n + 1) nl (n + 1 - (c + 1)) x0 x1 x2 x7 os) Q) : Ev (fun n => L60_2 (callF prg n) (n + 1) nl (n + 1 - c) x0 x1 x2 x7 os) Q := ev_loop (L := fun n m => L60_2 (callF prg n) (n + 1) nl m x0 x1 x2 x7 os) (fun n m => L60_2_s _ _ _ _ _ _ _ _ _) h
theorem VL60_2 {nl : Nat} {Q : SV → List SO → Prop} {x0 x1 x2 x7 : SV} {os : List SO} (h : Ev (fun n => LB60_2 (callF prg n) (n + 1) nl (n + 1 - 1) x0 x1 x2 x7 os) Q) : Ev (fun n => L60_2 (callF prg n) (n + 1) nl (n + 1) x0 x1 x2 x7 os) Q := UL60_2 (c := 0) h
theorem L60_5_s (K : Nat → List SV → List SO → Out) (N nl : Nat) (m2 : Nat) (m5 : Nat) (x0 x1 x2 x7 x8 : SV) (os : List SO) : L60_5 K N nl m2 (m5 + 1) x0 x1 x2 x7 x8 os = LB60_5 K N nl m2 m5 x0 x1 x2 x7 x8 os := by kernel_rfl
theorem UL60_5 {nl c : Nat} {Q : SV → List SO → Prop} {m2 : Nat → Nat} {x0 x1 x2 x7 x8 : SV} {os : List SO} (h : Ev (fun n => LB60_5 (callF prg n) (n + 1) nl (m2 n) (n + 1 - (c + 1)) x0 x1 x2 x7 x8 os) Q) : Ev (fun n => L60_5 (callF prg n) (n + 1) nl (m2 n) (n + 1 - c) x0 x1 x2 x7 x8 os) Q := ev_loop (L := fun n m => L60_5 (callF prg n) (n + 1) nl (m2 n) m x0 x1 x2 x7 x8 os) (fun n m => L60_5_s _ _ _ _ _ _ _ _ _ _ _) h
theorem VL60_5 {nl : Nat} {Q : SV → List SO → Prop} {m2 : Nat → Nat} {x0 x1 x2 x7 x8 : SV} {os : List SO} (h : Ev (fun n => LB60_5 (callF prg n) (n + 1) nl (m2 n) (n + 1 - 1) x0 x1 x2 x7 x8 os) Q) : Ev (fun n => L60_5 (callF prg n) (n + 1) nl (m2 n) (n + 1) x0 x1 x2 x7 x8 os) Q := UL60_5 (c := 0) h
theorem X60_s (K : Nat → List SV → List SO → Out) (N nl : Nat) (x0 x1 x2 : SV) (os : List SO) : X60 K N nl x0 x1 x2 os = B60 K N nl x0 x1 x2 os := by kernel_rfl
theorem E60 (n : Nat) (x0 x1 x2 : SV) (os : List SO) : callF prg (n + 1) 60 [x0, x1, x2] os = X60 (callF prg n) (n + 1) os.length x0 x1 x2 os := by kernel_rfl
theorem U60 {Q : SV → List SO → Prop} {x0 x1 x2 : SV} {os : List SO} {nl : Nat} (hnl : os.length = nl) (h : Ev (fun n => B60 (callF prg n) (n + 1) nl x0 x1 x2 os) Q) : Ev (fun n => callF prg n 60 [x0, x1, x2] os) Q := by subst hnl; exact ev_fun (fun n => (E60 n _ _ _ _).trans (X60_s _ _ _ _ _ _ _)) h
theorem X61_s (K : Nat → List SV → List SO → Out) (N nl : Nat) (x0 : SV) (os : List SO) : X61 K N nl x0 os = B61 K N nl x0 os := by kernel_rfl
theorem E61 (n : Nat) (x0 : SV) (os : List SO) : callF prg (n + 1) 61 [x0] os = X61 (callF prg n) (n + 1) os.length x0 os := by kernel_rfl
theorem U61 {Q : SV → List SO → Prop} {x0 : SV} {os : List SO} {nl : Nat} (hnl : os.length = nl) (h : Ev (fun n => B61 (callF prg n) (n + 1) nl x0 os) Q) : Ev (fun n => callF prg n 61 [x0] os) Q := by subst hnl; exact ev_fun (fun n => (E61 n _ _).trans (X61_s _ _ _ _ _)) h
theorem X62_s (K : Nat → List SV → List SO → Out) (N nl : Nat) (x0 x1 : SV) (os : List SO) : X62 K N nl x0 x1 os = B62 K N nl x0 x1 os := by kernel_rfl
theorem E62 (n : Nat) (x0 x1 : SV) (os : List SO) : callF prg (n + 1) 62 [x0, x1] os = X62 (callF prg n) (n + 1) os.length x0 x1 os := by kernel_rfl
theorem U62 {Q : SV → List SO → Prop} {x0 x1 : SV} {os : List SO} {nl : Nat} (hnl : os.length = nl) (h : Ev (fun n => B62 (callF prg n) (n + 1) nl x0 x1 os) Q) : Ev (fun n => callF prg n 62 [x0, x1] os) Q := by subst hnl; exact ev_fun (fun n => (E62 n _ _ _).trans (X62_s _ _ _ _ _ _)) h
theorem X63_s (K : Nat → List SV → List SO → Out) (N nl : Nat) (x0 x1 : SV) (os : List SO) : X63 K N nl x0 x1 os = B63 K N nl x0 x1 os := by kernel_rfl
theorem E63 (n : Nat) (x0 x1 : SV) (os : List SO) : callF prg (n + 1) 63 [x0, x1] os = X63 (callF prg n) (n + 1) os.length x0 x1 os := by kernel_rfl
theorem U63 {Q : SV → List SO → Prop} {x0 x1 : SV} {os : List SO} {nl : Nat} (hnl : os.length = nl) (h : Ev (fun n => B63 (callF prg n) (n + 1) nl x0 x1 os) Q) : Ev (fun n => callF prg n 63 [x0, x1] os) Q := by subst hnl; exact ev_fun (fun n => (E63 n _ _ _).trans (X63_s _ _ _ _ _ _)) h
theorem X64_s (K : Nat → List SV → List SO → Out) (N nl : Nat) (x0 x1 : SV) (os : List SO) : X64 K N nl x0 x1 os = B64 K N nl x0 x1 os := by kernel_rfl
theorem E64 (n : Nat) (x0 x1 : SV) (os : List SO) : callF prg (n + 1) 64 [x0, x1] os = X64 (callF prg n) (n + 1) os.length x0 x1 os := by kernel_rfl
theorem U64 {Q : SV → List SO → Prop} {x0 x1 : SV} {os : List SO} {nl : Nat} (hnl : os.length = nl) (h : Ev (fun n => B64 (callF prg n) (n + 1) nl x0 x1 os) Q) : Ev (fun n => callF prg n 64 [x0, x1] os) Q := by subst hnl; exact ev_fun (fun n => (E64 n _ _ _).trans (X64_s _ _ _ _ _ _)) h
theorem L65_3_s (K : Nat → List SV → List SO → Out) (N nl : Nat) (m3 : Nat) (x0 x1 x5 x6 : SV) (os : List SO) : L65_3 K N nl (m3 + 1) x0 x1 x5 x6 os = gcB nl [x0, x1, x5, x6] os fun xs os => G65_3 K N nl m3 xs os := by kernel_rfl
theorem UL65_3 {nl c : Nat} {Q : SV → List SO → Prop} {x0 x1 x5 x6 : SV} {os : List SO} (h : Ev (fun n => gcB nl [x0, x1, x5, x6] os fun xs os => G65_3 (callF prg n) (n + 1) nl (n + 1 - (c + 1)) xs os) Q) : Ev (fun n => L65_3 (callF prg n) (n + 1) nl (n + 1 - c) x0 x1 x5 x6 os) Q := ev_loop (L := fun n m => L65_3 (callF prg n) (n + 1) nl m x0 x1 x5 x6 os) (fun n m => L65_3_s _ _ _ _ _ _ _ _ _) h
theorem VL65_3 {nl : Nat} {Q : SV → List SO → Prop} {x0 x1 x5 x6 : SV} {os : List SO} (h : Ev (fun n => gcB nl [x0, x1, x5, x6] os fun xs os => G65_3 (callF prg n) (n + 1) nl (n + 1 - 1) xs os) Q) : Ev (fun n => L65_3 (callF prg n) (n + 1) nl (n + 1) x0 x1 x5 x6 os) Q := UL65_3 (c := 0) h
theorem G65_3_s (K : Nat → List SV → List SO → Out) (N nl : Nat) (m3 : Nat) (x0 x1 x5 x6 : SV) (os : List SO) : G65_3 K N nl m3 [x0, x1, x5, x6] os = GB65_3 K N nl m3 x0 x1 x5 x6 os := by kernel_rfl
theorem UG65_3 {nl : Nat} {Q : SV → List SO → Prop} (m3 : Nat → Nat) {x0 x1 x5 x6 : SV} {os : List SO} (h : Ev (fun n => GB65_3 (callF prg n) (n + 1) nl (m3 n) x0 x1 x5 x6 os) Q) : Ev (fun n => G65_3 (callF prg n) (n + 1) nl (m3 n) [x0, x1, x5, x6] os) Q := ev_eq (fun n => G65_3_s _ _ _ _ _ _ _ _ _) h
theorem J65_4_s (K : Nat → List SV → List SO → Out) (N nl : Nat) (m3 : Nat) (x0 x1 x5 x6 : SV) (os : List SO) : J65_4 K N nl m3 x0 x1 x5 x6 os = JB65_4 K N nl m3 x0 x1 x5 x6 os := by kernel_rfl
theorem UJ65_4 {nl : Nat} {Q : SV → List SO → Prop} {m3 : Nat → Nat} {x0 x1 x5 x6 : SV} {os : List SO} (h : Ev (fun n => JB65_4 (callF prg n) (n + 1) nl (m3 n) x0 x1 x5 x6 os) Q) : Ev (fun n => J65_4 (callF prg n) (n + 1) nl (m3 n) x0 x1 x5 x6 os) Q := ev_eq (fun n => J65_4_s _ _ _ _ _ _ _ _ _) h
theorem X65_s (K : Nat → List SV → List SO → Out) (N nl : Nat) (x0 x1 : SV) (os : List SO) : X65 K N nl x0 x1 os = B65 K N nl x0 x1 os := by kernel_rfl
theorem E65 (n : Nat) (x0 x1 : SV) (os : List SO) : callF prg (n + 1) 65 [x0, x1] os = X65 (callF prg n) (n + 1) os.length x0 x1 os := by kernel_rfl
theorem U65 {Q : SV → List SO → Prop} {x0 x1 : SV} {os : List SO} {nl : Nat} (hnl : os.length = nl) (h : Ev (fun n => B65 (callF prg n) (n + 1) nl x0 x1 os) Q) : Ev (fun n => callF prg n 65 [x0, x1] os) Q := by subst hnl; exact ev_fun (fun n => (E65 n _ _ _).trans (X65_s _ _ _ _ _ _)) h
theorem L66_3_s (K : Nat → List SV → List SO → Out) (N nl : Nat) (m3 : Nat) (x0 x3 x4 : SV) (os : List SO) : L66_3 K N nl (m3 + 1) x0 x3 x4 os = gcB nl [x0, x3, x4] os fun xs os => G66_3 K N nl m3 xs os := by kernel_rfl
theorem UL66_3 {nl c : Nat} {Q : SV → List SO → Prop} {x0 x3 x4 : SV} {os : List SO} (h : Ev (fun n => gcB nl [x0, x3, x4] os fun xs os => G66_3 (callF prg n) (n + 1) nl (n + 1 - (c + 1)) xs os) Q) : Ev (fun n => L66_3 (callF prg n) (n + 1) nl (n + 1 - c) x0 x3 x4 os) Q := ev_loop (L := fun n m => L66_3 (callF prg n) (n + 1) nl m x0 x3 x4 os) (fun n m => L66_3_s _ _ _ _ _ _ _ _) h
theorem VL66_3 {nl : Nat} {Q : SV → List SO → Prop} {x0 x3 x4 : SV} {os : List SO} (h : Ev (fun n => gcB nl [x0, x3, x4] os fun xs os => G66_3 (callF prg n) (n + 1) nl (n + 1 - 1) xs os) Q) : Ev (fun n => L66_3 (callF prg n) (n + 1) nl (n + 1) x0 x3 x4 os) Q := UL66_3 (c := 0) h
theorem G66_3_s (K : Nat → List SV → List SO → Out) (N nl : Nat) (m3 : Nat) (x0 x3 x4 : SV) (os : List SO) : G66_3 K N nl m3 [x0, x3, x4] os = GB66_3 K N nl m3 x0 x3 x4 os := by kernel_rfl
theorem UG66_3 {nl : Nat} {Q : SV → List SO → Prop} (m3 : Nat → Nat) {x0 x3 x4 : SV} {os : List SO} (h : Ev (fun n => GB66_3 (callF prg n) (n + 1) nl (m3 n) x0 x3 x4 os) Q) : Ev (fun n => G66_3 (callF prg n) (n + 1) nl (m3 n) [x0, x3, x4] os) Q := ev_eq (fun n => G66_3_s _ _ _ _ _ _ _ _) h
theorem J66_4_s (K : Nat → List SV → List SO → Out) (N nl : Nat) (m3 : Nat) (x0 x3 x4 : SV) (os : List SO) : J66_4 K N nl m3 x0 x3 x4 os = JB66_4 K N nl m3 x0 x3 x4 os := by kernel_rfl
theorem UJ66_4 {nl : Nat} {Q : SV → List SO → Prop} {m3 : Nat → Nat} {x0 x3 x4 : SV} {os : List SO} (h : Ev (fun n => JB66_4 (callF prg n) (n + 1) nl (m3 n) x0 x3 x4 os) Q) : Ev (fun n => J66_4 (callF prg n) (n + 1) nl (m3 n) x0 x3 x4 os) Q := ev_eq (fun n => J66_4_s _ _ _ _ _ _ _ _) h
theorem X66_s (K : Nat → List SV → List SO → Out) (N nl : Nat) (x0 : SV) (os : List SO) : X66 K N nl x0 os = B66 K N nl x0 os := by kernel_rfl
theorem E66 (n : Nat) (x0 : SV) (os : List SO) : callF prg (n + 1) 66 [x0] os = X66 (callF prg n) (n + 1) os.length x0 os := by kernel_rfl
theorem U66 {Q : SV → List SO → Prop} {x0 : SV} {os : List SO} {nl : Nat} (hnl : os.length = nl) (h : Ev (fun n => B66 (callF prg n) (n + 1) nl x0 os) Q) : Ev (fun n => callF prg n 66 [x0] os) Q := by subst hnl; exact ev_fun (fun n => (E66 n _ _).trans (X66_s _ _ _ _ _)) h
theorem L67_4_s (K : Nat → List SV → List SO → Out) (N nl : Nat) (m4 : Nat) (x0 x1 x5 : SV) (os : List SO) : L67_4 K N nl (m4 + 1) x0 x1 x5 os = LB67_4 K N nl m4 x0 x1 x5 os := by kernel_rfl
theorem UL67_4 {nl c : Nat} {Q : SV → List SO → Prop} {x0 x1 x5 : SV} {os : List SO} (h : Ev (fun n => LB67_4 (callF prg n) (n + 1) nl (n + 1 - (c + 1)) x0 x1 x5 os) Q) : Ev (fun n => L67_4 (callF prg n) (n + 1) nl (n + 1 - c) x0 x1 x5 os) Q := ev_loop (L := fun n m => L67_4 (callF prg n) (n + 1) nl m x0 x1 x5 os) (fun n m => L67_4_s _ _ _ _ _ _ _ _) h
theorem VL67_4 {nl : Nat} {Q : SV → List SO → Prop} {x0 x1 x5 : SV} {os : List SO} (h : Ev (fun n => LB67_4 (callF prg n) (n + 1) nl (n + 1 - 1) x0 x1 x5 os) Q) : Ev (fun n => L67_4 (callF prg n) (n + 1) nl (n + 1) x0 x1 x5 os) Q := UL67_4 (c := 0) h
theorem X67_s (K : Nat → List SV → List SO → Out) (N nl : Nat) (x0 x1 : SV) (os : List SO) : X67 K N nl x0 x1 os = B67 K N nl x0 x1 os := by kernel_rfl
theorem E67 (n : Nat) (x0 x1 : SV) (os : List SO) : callF prg (n + 1) 67 [x0, x1] os = X67 (callF prg n) (n + 1) os.length x0 x1 os := by kernel_rfl
theorem U67 {Q : SV → List SO → Prop} {x0 x1 : SV} {os : List SO} {nl : Nat} (hnl : os.length = nl) (h : Ev (fun n => B67 (callF prg n) (n + 1) nl x0 x1 os) Q) : Ev (fun n => callF prg n 67 [x0, x1] os) Q := by subst hnl; exact ev_fun (fun n => (E67 n _ _ _).trans (X67_s _ _ _ _ _ _)) h
theorem L68_4_s (K : Nat → List SV → List SO → Out) (N nl : Nat) (m4 : Nat) (x0 x1 x5 : SV) (os : List SO) : L68_4 K N nl (m4 + 1) x0 x1 x5 os = LB68_4 K N nl m4 x0 x1 x5 os := by kernel_rfl
theorem UL68_4 {nl c : Nat} {Q : SV → List SO → Prop} {x0 x1 x5 : SV} {os : List SO} (h : Ev (fun n => LB68_4 (callF prg n) (n + 1) nl (n + 1 - (c + 1)) x0 x1 x5 os) Q) : Ev (fun n => L68_4 (callF prg n) (n + 1) nl (n + 1 - c) x0 x1 x5 os) Q := ev_loop (L := fun n m => L68_4 (callF prg n) (n + 1) nl m x0 x1 x5 os) (fun n m => L68_4_s _ _ _ _ _ _ _ _) h
theorem VL68_4 {nl : Nat} {Q : SV → List SO → Prop} {x0 x1 x5 : SV} {os : List SO} (h : Ev (fun n => LB68_4 (callF prg n) (n + 1) nl (n + 1 - 1) x0 x1 x5 os) Q) : Ev (fun n => L68_4 (callF prg n) (n + 1) nl (n + 1) x0 x1 x5 os) Q := UL68_4 (c := 0) h
theorem X68_s (K : Nat → List SV → List SO → Out) (N nl : Nat) (x0 x1 : SV) (os : List SO) : X68 K N nl x0 x1 os = B68 K N nl x0 x1 os := by kernel_rfl
theorem E68 (n : Nat) (x0 x1 : SV) (os : List SO) : callF prg (n + 1) 68 [x0, x1] os = X68 (callF prg n) (n + 1) os.length x0 x1 os := by kernel_rfl
theorem U68 {Q : SV → List SO → Prop} {x0 x1 : SV} {os : List SO} {nl : Nat} (hnl : os.length = nl) (h : Ev (fun n => B68 (callF prg n) (n + 1) nl x0 x1 os) Q) : Ev (fun n => callF prg n 68 [x0, x1] os) Q := by subst hnl; exact ev_fun (fun n => (E68 n _ _ _).trans (X68_s _ _ _ _ _ _)) h
theorem L69_2_s (K : Nat → List SV → List SO → Out) (N nl : Nat) (m2 : Nat) (x0 x1 x5 : SV) (os : List SO) : L69_2 K N nl (m2 + 1) x0 x1 x5 os = LB69_2 K N nl m2 x0 x1 x5 os := by kernel_rfl
theorem UL69_2 {nl c : Nat} {Q : SV → List SO → Prop} {x0 x1 x5 : SV} {os : List SO} (h : Ev (fun n => LB69_2 (callF prg n) (n + 1) nl (n + 1 - (c + 1)) x0 x1 x5 os) Q) : Ev (fun n => L69_2 (callF prg n) (n + 1) nl (n + 1 - c) x0 x1 x5 os) Q := ev_loop (L := fun n m => L69_2 (callF prg n) (n + 1) nl m x0 x1 x5 os) (fun n m => L69_2_s _ _ _ _ _ _ _ _) h
theorem VL69_2 {nl : Nat} {Q : SV → List SO → Prop} {x0 x1 x5 : SV} {os : List SO} (h : Ev (fun n => LB69_2 (callF prg n) (n + 1) nl (n + 1 - 1) x0 x1 x5 os) Q) : Ev (fun n => L69_2 (callF prg n) (n + 1) nl (n + 1) x0 x1 x5 os) Q := UL69_2 (c := 0) h
theorem X69_s (K : Nat → List SV → List SO → Out) (N nl : Nat) (x0 x1 : SV) (os : List SO) : X69 K N nl x0 x1 os = B69 K N nl x0 x1 os := by kernel_rfl
theorem E69 (n : Nat) (x0 x1 : SV) (os : List SO) : callF prg (n + 1) 69 [x0, x1] os = X69 (callF prg n) (n + 1) os.length x0 x1 os := by kernel_rfl
theorem U69 {Q : SV → List SO → Prop} {x0 x1 : SV} {os : List SO} {nl : Nat} (hnl : os.length = nl) (h : Ev (fun n => B69 (callF prg n) (n + 1) nl x0 x1 os) Q) : Ev (fun n => callF prg n 69 [x0, x1] os) Q := by subst hnl; exact ev_fun (fun n => (E69 n _ _ _).trans (X69_s _ _ _ _ _ _)) h
theorem L70_2_s (K : Nat → List SV → List SO → Out) (N nl : Nat) (m2 : Nat) (x0 x1 x5 : SV) (os : List SO) : L70_2 K N nl (m2 + 1) x0 x1 x5 os = LB70_2 K N nl m2 x0 x1 x5 os := by kernel_rfl
theorem UL70_2 {nl c : Nat} {Q : SV → List SO → Prop} {x0 x1 x5 : SV} {os : List SO} (h : Ev (fun n => LB70_2 (callF prg n) (n + 1) nl (n + 1 - (c + 1)) x0 x1 x5 os) Q) : Ev (fun n => L70_2 (callF prg n) (n + 1) nl (n + 1 - c) x0 x1 x5 os) Q := ev_loop (L := fun n m => L70_2 (callF prg n) (n + 1) nl m x0 x1 x5 os) (fun n m => L70_2_s _ _ _ _ _ _ _ _) h
theorem VL70_2 {nl : Nat} {Q : SV → List SO → Prop} {x0 x1 x5 : SV} {os : List SO} (h : Ev (fun n => LB70_2 (callF prg n) (n + 1) nl (n + 1 - 1) x0 x1 x5 os) Q) : Ev (fun n => L70_2 (callF prg n) (n + 1) nl (n + 1) x0 x1 x5 os) Q := UL70_2 (c := 0) h
theorem X70_s (K : Nat → List SV → List SO → Out) (N nl : Nat) (x0 x1 : SV) (os : List SO) : X70 K N nl x0 x1 os = B70 K N nl x0 x1 os := by kernel_rfl
theorem E70 (n : Nat) (x0 x1 : SV) (os : List SO) : callF prg (n + 1) 70 [x0, x1] os = X70 (callF prg n) (n + 1) os.length x0 x1 os := by kernel_rfl
theorem U70 {Q : SV → List SO → Prop} {x0 x1 : SV} {os : List SO} {nl : Nat} (hnl : os.length = nl) (h : Ev (fun n => B70 (callF prg n) (n + 1) nl x0 x1 os) Q) : Ev (fun n => callF prg n 70 [x0, x1] os) Q := by subst hnl; exact ev_fun (fun n => (E70 n _ _ _).trans (X70_s _ _ _ _ _ _)) h
theorem L71_2_s (K : Nat → List SV → List SO → Out) (N nl : Nat) (m2 : Nat) (x0 x1 x5 : SV) (os : List SO) : L71_2 K N nl (m2 + 1) x0 x1 x5 os = LB71_2 K N nl m2 x0 x1 x5 os := by kernel_rfl
theorem UL71_2 {nl c : Nat} {Q : SV → List SO → Prop} {x0 x1 x5 : SV} {os : List SO} (h : Ev (fun n => LB71_2 (callF prg n) (n + 1) nl (n + 1 - (c + 1)) x0 x1 x5 os) Q) : Ev (fun n => L71_2 (callF prg n) (n + 1) nl (n + 1 - c) x0 x1 x5 os) Q := ev_loop (L := fun n m => L71_2 (callF prg n) (n + 1) nl m x0 x1 x5 os) (fun n m => L71_2_s _ _ _ _ _ _ _ _) h
theorem VL71_2 {nl : Nat} {Q : SV → List SO → Prop} {x0 x1 x5 : SV} {os : List SO} (h : Ev (fun n => LB71_2 (callF prg n) (n + 1) nl (n + 1 - 1) x0 x1 x5 os) Q) : Ev (fun n => L71_2 (callF prg n) (n + 1) nl (n + 1) x0 x1 x5 os) Q := UL71_2 (c := 0) h
theorem X71_s (K : Nat → List SV → List SO → Out) (N nl : Nat) (x0 x1 : SV) (os : List SO) : X71 K N nl x0 x1 os = B71 K N nl x0 x1 os := by kernel_rfl
theorem E71 (n : Nat) (x0 x1 : SV) (os : List SO) : callF prg (n + 1) 71 [x0, x1] os = X71 (callF prg n) (n + 1) os.length x0 x1 os := by kernel_rfl
theorem U71 {Q : SV → List SO → Prop} {x0 x1 : SV} {os : List SO} {nl : Nat} (hnl : os.length = nl) (h : Ev (fun n => B71 (callF prg n) (n + 1) nl x0 x1 os) Q) : Ev (fun n => callF prg n 71 [x0, x1] os) Q := by subst hnl; exact ev_fun (fun n => (E71 n _ _ _).trans (X71_s _ _ _ _ _ _)) h
theorem L72_2_s (K : Nat → List SV → List SO → Out) (N nl : Nat) (m2 : Nat) (x0 x1 x5 : SV) (os : List SO) : L72_2 K N nl (m2 + 1) x0 x1 x5 os = LB72_2 K N nl m2 x0 x1 x5 os := by kernel_rfl
theorem UL72_2 {nl c : Nat} {Q : SV → List SO → Prop} {x0 x1 x5 : SV} {os : List SO} (h : Ev (fun n => LB72_2 (callF prg n) (n + 1) nl (n + 1 - (c + 1)) x0 x1 x5 os) Q) : Ev (fun n => L72_2 (callF prg n) (n + 1) nl (n + 1 - c) x0 x1 x5 os) Q := ev_loop (L := fun n m => L72_2 (callF prg n) (n + 1) nl m x0 x1 x5 os) (fun n m => L72_2_s _ _ _ _ _ _ _ _) h
theorem VL72_2 {nl : Nat} {Q : SV → List SO → Prop} {x0 x1 x5 : SV} {os : List SO} (h : Ev (fun n => LB72_2 (callF prg n) (n + 1) nl (n + 1 - 1) x0 x1 x5 os) Q) : Ev (fun n => L72_2 (callF prg n) (n + 1) nl (n + 1) x0 x1 x5 os) Q := UL72_2 (c := 0) h
theorem X72_s (K : Nat → List SV → List SO → Out) (N nl : Nat) (x0 x1 : SV) (os : List SO) : X72 K N nl x0 x1 os = B72 K N nl x0 x1 os := by kernel_rfl
theorem E72 (n : Nat) (x0 x1 : SV) (os : List SO) : callF prg (n + 1) 72 [x0, x1] os = X72 (callF prg n) (n + 1) os.length x0 x1 os := by kernel_rfl
theorem U72 {Q : SV → List SO → Prop} {x0 x1 : SV} {os : List SO} {nl : Nat} (hnl : os.length = nl) (h : Ev (fun n => B72 (callF prg n) (n + 1) nl x0 x1 os) Q) : Ev (fun n => callF prg n 72 [x0, x1] os) Q := by subst hnl; exact ev_fun (fun n => (E72 n _ _ _).trans (X72_s _ _ _ _ _ _)) h
theorem J73_3_s (K : Nat → List SV → List SO → Out) (N nl : Nat) (x0 x1 : SV) (os : List SO) : J73_3 K N nl x0 x1 os = JB73_3 K N nl x0 x1 os := by kernel_rfl
theorem UJ73_3 {nl : Nat} {Q : SV → List SO → Prop} {x0 x1 : SV} {os : List SO} (h : Ev (fun n => JB73_3 (callF prg n) (n + 1) nl x0 x1 os) Q) : Ev (fun n => J73_3 (callF prg n) (n + 1) nl x0 x1 os) Q := ev_eq (fun n => J73_3_s _ _ _ _ _ _) h
theorem J73_6_s (K : Nat → List SV → List SO → Out) (N nl : Nat) (x0 x6 : SV) (os : List SO) : J73_6 K N nl x0 x6 os = JB73_6 K N nl x0 x6 os := by kernel_rfl
theorem UJ73_6 {nl : Nat} {Q : SV → List SO → Prop} {x0 x6 : SV} {os : List SO} (h : Ev (fun n => JB73_6 (callF prg n) (n + 1) nl x0 x6 os) Q) : Ev (fun n => J73_6 (callF prg n) (n + 1) nl x0 x6 os) Q := ev_eq (fun n => J73_6_s _ _ _ _ _ _) h
theorem L73_8_s (K : Nat → List SV → List SO → Out) (N nl : Nat) (m8 : Nat) (x7 x8 : SV) (os : List SO) : L73_8 K N nl (m8 + 1) x7 x8 os = LB73_8 K N nl m8 x7 x8 os := by kernel_rfl
theorem UL73_8 {nl c : Nat} {Q : SV → List SO → Prop} {x7 x8 : SV} {os : List SO} (h : Ev (fun n => LB73_8 (callF prg n) (n + 1) nl (n + 1 - (c + 1)) x7 x8 os) Q) : Ev (fun n => L73_8 (callF prg n) (n + 1) nl (n + 1 - c) x7 x8 os) Q := ev_loop (L := fun n m => L73_8 (callF prg n) (n + 1) nl m x7 x8 os) (fun n m => L73_8_s _ _ _ _ _ _ _) h
theorem VL73_8 {nl : Nat} {Q : SV → List SO → Prop} {x7 x8 : SV} {os : List SO} (h : Ev (fun n => LB73_8 (callF prg n) (n + 1) nl (n + 1 - 1) x7 x8 os) Q) : Ev (fun n => L73_8 (callF prg n) (n + 1) nl (n + 1) x7 x8 os) Q := UL73_8 (c := 0) h
theorem X73_s (K : Nat → List SV → List SO → Out) (N nl : Nat) (x0 x1 : SV) (os : List SO) : X73 K N nl x0 x1 os = B73 K N nl x0 x1 os := by kernel_rfl
theorem E73 (n : Nat) (x0 x1 : SV) (os : List SO) : callF prg (n + 1) 73 [x0, x1] os = X73 (callF prg n) (n + 1) os.length x0 x1 os := by kernel_rfl
theorem U73 {Q : SV → List SO → Prop} {x0 x1 : SV} {os : List SO} {nl : Nat} (hnl : os.length = nl) (h : Ev (fun n => B73 (callF prg n) (n + 1) nl x0 x1 os) Q) : Ev (fun n => callF prg n 73 [x0, x1] os) Q := by subst hnl; exact ev_fun (fun n => (E73 n _ _ _).trans (X73_s _ _ _ _ _ _)) h
theorem L74_3_s (K : Nat → List SV → List SO → Out) (N nl : Nat) (m3 : Nat) (x0 x3 x4 : SV) (os : List SO) : L74_3 K N nl (m3 + 1) x0 x3 x4 os = LB74_3 K N nl m3 x0 x3 x4 os := by kernel_rfl
theorem UL74_3 {nl c : Nat} {Q : SV → List SO → Prop} {x0 x3 x4 : SV} {os : List SO} (h : Ev (fun n => LB74_3 (callF prg n) (n + 1) nl (n + 1 - (c + 1)) x0 x3 x4 os) Q) : Ev (fun n => L74_3 (callF prg n) (n + 1) nl (n + 1 - c) x0 x3 x4 os) Q := ev_loop (L := fun n m => L74_3 (callF prg n) (n + 1) nl m x0 x3 x4 os) (fun n m => L74_3_s _ _ _ _ _ _ _ _) h
theorem VL74_3 {nl : Nat} {Q : SV → List SO → Prop} {x0 x3 x4 : SV} {os : List SO} (h : Ev (fun n => LB74_3 (callF prg n) (n + 1) nl (n + 1 - 1) x0 x3 x4 os) Q) : Ev (fun n => L74_3 (callF prg n) (n + 1) nl (n + 1) x0 x3 x4 os) Q := UL74_3 (c := 0) h
theorem L74_7_s (K : Nat → List SV → List SO → Out) (N nl : Nat) (m7 : Nat) (x0 x3 x5 : SV) (os : List SO) : L74_7 K N nl (m7 + 1) x0 x3 x5 os = LB74_7 K N nl m7 x0 x3 x5 os := by kernel_rfl
theorem UL74_7 {nl c : Nat} {Q : SV → List SO → Prop} {x0 x3 x5 : SV} {os : List SO} (h : Ev (fun n => LB74_7 (callF prg n) (n + 1) nl (n + 1 - (c + 1)) x0 x3 x5 os) Q) : Ev (fun n => L74_7 (callF prg n) (n + 1) nl (n + 1 - c) x0 x3 x5 os) Q := ev_loop (L := fun n m => L74_7 (callF prg n) (n + 1) nl m x0 x3 x5 os) (fun n m => L74_7_s _ _ _ _ _ _ _ _) h
theorem VL74_7 {nl : Nat} {Q : SV → List SO → Prop} {x0 x3 x5 : SV} {os : List SO} (h : Ev (fun n => LB74_7 (callF prg n) (n + 1) nl (n + 1 - 1) x0 x3 x5 os) Q) : Ev (fun n => L74_7 (callF prg n) (n + 1) nl (n + 1) x0 x3 x5 os) Q := UL74_7 (c := 0) h
theorem L74_10_s (K : Nat → List SV → List SO → Out) (N nl : Nat) (m7 : Nat) (m10 : Nat) (x0 x3 x5 x6 : SV) (os : List SO) : L74_10 K N nl m7 (m10 + 1) x0 x3 x5 x6 os = LB74_10 K N nl m7 m10 x0 x3 x5 x6 os := by kernel_rfl
theorem UL74_10 {nl c : Nat} {Q : SV → List SO → Prop} {m7 : Nat → Nat} {x0 x3 x5 x6 : SV} {os : List SO} (h : Ev (fun n => LB74_10 (callF prg n) (n + 1) nl (m7 n) (n + 1 - (c + 1)) x0 x3 x5 x6 os) Q) : Ev (fun n => L74_10 (callF prg n) (n + 1) nl (m7 n) (n + 1 - c) x0 x3 x5 x6 os) Q := ev_loop (L := fun n m => L74_10 (callF prg n) (n + 1) nl (m7 n) m x0 x3 x5 x6 os) (fun n m => L74_10_s _ _ _ _ _ _ _ _ _ _) h
theorem VL74_10 {nl : Nat} {Q : SV → List SO → Prop} {m7 : Nat → Nat} {x0 x3 x5 x6 : SV} {os : List SO} (h : Ev (fun n => LB74_10 (callF prg n) (n + 1) nl (m7 n) (n + 1 - 1) x0 x3 x5 x6 os) Q) : Ev (fun n => L74_10 (callF prg n) (n + 1) nl (m7 n) (n + 1) x0 x3 x5 x6 os) Q := UL74_10 (c := 0) h
theorem X74_s (K : Nat → List SV → List SO → Out) (N nl : Nat) (x0 : SV) (os : List SO) : X74 K N nl x0 os = B74 K N nl x0 os := by kernel_rfl
theorem E74 (n : Nat) (x0 : SV) (os : List SO) : callF prg (n + 1) 74 [x0] os = X74 (callF prg n) (n + 1) os.length x0 os := by kernel_rfl
theorem U74 {Q : SV → List SO → Prop} {x0 : SV} {os : List SO} {nl : Nat} (hnl : os.length = nl) (h : Ev (fun n => B74 (callF prg n) (n + 1) nl x0 os) Q) : Ev (fun n => callF prg n 74 [x0] os) Q := by subst hnl; exact ev_fun (fun n => (E74 n _ _).trans (X74_s _ _ _ _ _)) h
theorem L75_2_s (K : Nat → List SV → List SO → Out) (N nl : Nat) (m2 : Nat) (x0 x1 x5 : SV) (os : List SO) : L75_2 K N nl (m2 + 1) x0 x1 x5 os = LB75_2 K N nl m2 x0 x1 x5 os := by kernel_rfl
theorem UL75_2 {nl c : Nat} {Q : SV → List SO → Prop} {x0 x1 x5 : SV} {os : List SO} (h : Ev (fun n => LB75_2 (callF prg n) (n + 1) nl (n + 1 - (c + 1)) x0 x1 x5 os) Q) : Ev (fun n => L75_2 (callF prg n) (n + 1) nl (n + 1 - c) x0 x1 x5 os) Q := ev_loop (L := fun n m => L75_2 (callF prg n) (n + 1) nl m x0 x1 x5 os) (fun n m => L75_2_s _ _ _ _ _ _ _ _) h
theorem VL75_2 {nl : Nat} {Q : SV → List SO → Prop} {x0 x1 x5 : SV} {os : List SO} (h : Ev (fun n => LB75_2 (callF prg n) (n + 1) nl (n + 1 - 1) x0 x1 x5 os) Q) : Ev (fun n => L75_2 (callF prg n) (n + 1) nl (n + 1) x0 x1 x5 os) Q := UL75_2 (c := 0) h
theorem X75_s (K : Nat → List SV → List SO → Out) (N nl : Nat) (x0 x1 : SV) (os : List SO) : X75 K N nl x0 x1 os = B75 K N nl x0 x1 os := by kernel_rfl
theorem E75 (n : Nat) (x0 x1 : SV) (os : List SO) : callF prg (n + 1) 75 [x0, x1] os = X75 (callF prg n) (n + 1) os.length x0 x1 os := by kernel_rfl
theorem U75 {Q : SV → List SO → Prop} {x0 x1 : SV} {os : List SO} {nl : Nat} (hnl : os.length = nl) (h : Ev (fun n => B75 (callF prg n) (n + 1) nl x0 x1 os) Q) : Ev (fun n => callF prg n 75 [x0, x1] os) Q := by subst hnl; exact ev_fun (fun n => (E75 n _ _ _).trans (X75_s _ _ _ _ _ _)) h
theorem X76_s (K : Nat → List SV → List SO → Out) (N nl : Nat) (x0 x1 : SV) (os : List SO) : X76 K N nl x0 x1 os = B76 K N nl x0 x1 os := by kernel_rfl
theorem E76 (n : Nat) (x0 x1 : SV) (os : List SO) : callF prg (n + 1) 76 [x0, x1] os = X76 (callF prg n) (n + 1) os.length x0 x1 os := by kernel_rfl
theorem U76 {Q : SV → List SO → Prop} {x0 x1 : SV} {os : List SO} {nl : Nat} (hnl : os.length = nl) (h : Ev (fun n => B76 (callF prg n) (n + 1) nl x0 x1 os) Q) : Ev (fun n => callF prg n 76 [x0, x1] os) Q := by subst hnl; exact ev_fun (fun n => (E76 n _ _ _).trans (X76_s _ _ _ _ _ _)) h
theorem X77_s (K : Nat → List SV → List SO → Out) (N nl : Nat) (x0 x1 x2 : SV) (os : List SO) : X77 K N nl x0 x1 x2 os = B77 K N nl x0 x1 x2 os := by kernel_rfl
theorem E77 (n : Nat) (x0 x1 x2 : SV) (os : List SO) : callF prg (n + 1) 77 [x0, x1, x2] os = X77 (callF prg n) (n + 1) os.length x0 x1 x2 os := by kernel_rfl
theorem U77 {Q : SV → List SO → Prop} {x0 x1 x2 : SV} {os : List SO} {nl : Nat} (hnl : os.length = nl) (h : Ev (fun n => B77 (callF prg n) (n + 1) nl x0 x1 x2 os) Q) : Ev (fun n => callF prg n 77 [x0, x1, x2] os) Q := by subst hnl; exact ev_fun (fun n => (E77 n _ _ _ _).trans (X77_s _ _ _ _ _ _ _)) h
theorem L78_3_s (K : Nat → List SV → List SO → Out) (N nl : Nat) (m3 : Nat) (x0 x3 x4 : SV) (os : List SO) : L78_3 K N nl (m3 + 1) x0 x3 x4 os = LB78_3 K N nl m3 x0 x3 x4 os := by kernel_rfl
theorem UL78_3 {nl c : Nat} {Q : SV → List SO → Prop} {x0 x3 x4 : SV} {os : List SO} (h : Ev (fun n => LB78_3 (callF prg n) (n + 1) nl (n + 1 - (c + 1)) x0 x3 x4 os) Q) : Ev (fun n => L78_3 (callF prg n) (n + 1) nl (n + 1 - c) x0 x3 x4 os) Q := ev_loop (L := fun n m => L78_3 (callF prg n) (n + 1) nl m x0 x3 x4 os) (fun n m => L78_3_s _ _ _ _ _ _ _ _) h
theorem VL78_3 {nl : Nat} {Q : SV → List SO → Prop} {x0 x3 x4 : SV} {os : List SO} (h : Ev (fun n => LB78_3 (callF prg n) (n + 1) nl (n + 1 - 1) x0 x3 x4 os) Q) : Ev (fun n => L78_3 (callF prg n) (n + 1) nl (n + 1) x0 x3 x4 os) Q := UL78_3 (c := 0) h
theorem X78_s (K : Nat → List SV → List SO → Out) (N nl : Nat) (x0 : SV) (os : List SO) : X78 K N nl x0 os = B78 K N nl x0 os := by kernel_rfl
theorem E78 (n : Nat) (x0 : SV) (os : List SO) : callF prg (n + 1) 78 [x0] os = X78 (callF prg n) (n + 1) os.length x0 os := by kernel_rfl
theorem U78 {Q : SV → List SO → Prop} {x0 : SV} {os : List SO} {nl : Nat} (hnl : os.length = nl) (h : Ev (fun n => B78 (callF prg n) (n + 1) nl x0 os) Q) : Ev (fun n => callF prg n 78 [x0] os) Q := by subst hnl; exact ev_fun (fun n => (E78 n _ _).trans (X78_s _ _ _ _ _)) h
theorem X79_s (K : Nat → List SV → List SO → Out) (N nl : Nat) (x0 : SV) (os : List SO) : X79 K N nl x0 os = B79 K N nl x0 os := by kernel_rfl
theorem E79 (n : Nat) (x0 : SV) (os : List SO) : callF prg (n + 1) 79 [x0] os = X79 (callF prg n) (n + 1) os.length x0 os := by kernel_rfl
theorem U79 {Q : SV → List SO → Prop} {x0 : SV} {os : List SO} {nl : Nat} (hnl : os.length = nl) (h : Ev (fun n => B79 (callF prg n) (n + 1) nl x0 os) Q) : Ev (fun n => callF prg n 79 [x0] os) Q := by subst hnl; exact ev_fun (fun n => (E79 n _ _).trans (X79_s _ _ _ _ _)) h
theorem X80_s (K : Nat → List SV → List SO → Out) (N nl : Nat) (x0 x1 x2 : SV) (os : List SO) : X80 K N nl x0 x1 x2 os = B80 K N nl x0 x1 x2 os := by kernel_rfl
theorem E80 (n : Nat) (x0 x1 x2 : SV) (os : List SO) : callF prg (n + 1) 80 [x0, x1, x2] os = X80 (callF prg n) (n + 1) os.length x0 x1 x2 os := by kernel_rfl
theorem U80 {Q : SV → List SO → Prop} {x0 x1 x2 : SV} {os : List SO} {nl : Nat} (hnl : os.length = nl) (h : Ev (fun n => B80 (callF prg n) (n + 1) nl x0 x1 x2 os) Q) : Ev (fun n => callF prg n 80 [x0, x1, x2] os) Q := by subst hnl; exact ev_fun (fun n => (E80 n _ _ _ _).trans (X80_s _ _ _ _ _ _ _)) h
theorem X81_s (K : Nat → List SV → List SO → Out) (N nl : Nat) (x0 x1 : SV) (os : List SO) : X81 K N nl x0 x1 os = B81 K N nl x0 x1 os := by kernel_rfl
theorem E81 (n : Nat) (x0 x1 : SV) (os : List SO) : callF prg (n + 1) 81 [x0, x1] os = X81 (callF prg n) (n + 1) os.length x0 x1 os := by kernel_rfl
theorem U81 {Q : SV → List SO → Prop} {x0 x1 : SV} {os : List SO} {nl : Nat} (hnl : os.length = nl) (h : Ev (fun n => B81 (callF prg n) (n + 1) nl x0 x1 os) Q) : Ev (fun n => callF prg n 81 [x0, x1] os) Q := by subst hnl; exact ev_fun (fun n => (E81 n _ _ _).trans (X81_s _ _ _ _ _ _)) h
theorem L82_2_s (K : Nat → List SV → List SO → Out) (N nl : Nat) (m2 : Nat) (x0 x1 x5 : SV) (os : List SO) : L82_2 K N nl (m2 + 1) x0 x1 x5 os = LB82_2 K N nl m2 x0 x1 x5 os := by kernel_rfl
theorem UL82_2 {nl c : Nat} {Q : SV → List SO → Prop} {x0 x1 x5 : SV} {os : List SO} (h : Ev (fun n => LB82_2 (callF prg n) (n + 1) nl (n + 1 - (c + 1)) x0 x1 x5 os) Q) : Ev (fun n => L82_2 (callF prg n) (n + 1) nl (n + 1 - c) x0 x1 x5 os) Q := ev_loop (L := fun n m => L82_2 (callF prg n) (n + 1) nl m x0 x1 x5 os) (fun n m => L82_2_s _ _ _ _ _ _ _ _) h
theorem VL82_2 {nl : Nat} {Q : SV → List SO → Prop} {x0 x1 x5 : SV} {os : List SO} (h : Ev (fun n => LB82_2 (callF prg n) (n + 1) nl (n + 1 - 1) x0 x1 x5 os) Q) : Ev (fun n => L82_2 (callF prg n) (n + 1) nl (n + 1) x0 x1 x5 os) Q := UL82_2 (c := 0) h
theorem X82_s (K : Nat → List SV → List SO → Out) (N nl : Nat) (x0 x1 : SV) (os : List SO) : X82 K N nl x0 x1 os = B82 K N nl x0 x1 os := by kernel_rfl
theorem E82 (n : Nat) (x0 x1 : SV) (os : List SO) : callF prg (n + 1) 82 [x0, x1] os = X82 (callF prg n) (n + 1) os.length x0 x1 os := by kernel_rfl
theorem U82 {Q : SV → List SO → Prop} {x0 x1 : SV} {os : List SO} {nl : Nat} (hnl : os.length = nl) (h : Ev (fun n => B82 (callF prg n) (n + 1) nl x0 x1 os) Q) : Ev (fun n => callF prg n 82 [x0, x1] os) Q := by subst hnl; exact ev_fun (fun n => (E82 n _ _ _).trans (X82_s _ _ _ _ _ _)) h
theorem L83_4_s (K : Nat → List SV → List SO → Out) (N nl : Nat) (m4 : Nat) (x0 x1 x12 x13 : SV) (os : List SO) : L83_4 K N nl (m4 + 1) x0 x1 x12 x13 os = LB83_4 K N nl m4 x0 x1 x12 x13 os := by kernel_rfl
theorem UL83_4 {nl c : Nat} {Q : SV → List SO → Prop} {x0 x1 x12 x13 : SV} {os : List SO} (h : Ev (fun n => LB83_4 (callF prg n) (n + 1) nl (n + 1 - (c + 1)) x0 x1 x12 x13 os) Q) : Ev (fun n => L83_4 (callF prg n) (n + 1) nl (n + 1 - c) x0 x1 x12 x13 os) Q := ev_loop (L := fun n m => L83_4 (callF prg n) (n + 1) nl m x0 x1 x12 x13 os) (fun n m => L83_4_s _ _ _ _ _ _ _ _ _) h
theorem VL83_4 {nl : Nat} {Q : SV → List SO → Prop} {x0 x1 x12 x13 : SV} {os : List SO} (h : Ev (fun n => LB83_4 (callF prg n) (n + 1) nl (n + 1 - 1) x0 x1 x12 x13 os) Q) : Ev (fun n => L83_4 (callF prg n) (n + 1) nl (n + 1) x0 x1 x12 x13 os) Q := UL83_4 (c := 0) h
theorem X83_s (K : Nat → List SV → List SO → Out) (N nl : Nat) (x0 x1 : SV) (os : List SO) : X83 K N nl x0 x1 os = B83 K N nl x0 x1 os := by kernel_rfl
theorem E83 (n : Nat) (x0 x1 : SV) (os : List SO) : callF prg (n + 1) 83 [x0, x1] os = X83 (callF prg n) (n + 1) os.length x0 x1 os := by kernel_rfl
theorem U83 {Q : SV → List SO → Prop} {x0 x1 : SV} {os : List SO} {nl : Nat} (hnl : os.length = nl) (h : Ev (fun n => B83 (callF prg n) (n + 1) nl x0 x1 os) Q) : Ev (fun n => callF prg n 83 [x0, x1] os) Q := by subst hnl; exact ev_fun (fun n => (E83 n _ _ _).trans (X83_s _ _ _ _ _ _)) h
theorem J84_11_s (K : Nat → List SV → List SO → Out) (N nl : Nat) (x2 x3 : SV) (os : List SO) : J84_11 K N nl x2 x3 os = JB84_11 K N nl x2 x3 os := by kernel_rfl
theorem UJ84_11 {nl : Nat} {Q : SV → List SO → Prop} {x2 x3 : SV} {os : List SO} (h : Ev (fun n => JB84_11 (callF prg n) (n + 1) nl x2 x3 os) Q) : Ev (fun n => J84_11 (callF prg n) (n + 1) nl x2 x3 os) Q := ev_eq (fun n => J84_11_s _ _ _ _ _ _) h
theorem X84_s (K : Nat → List SV → List SO → Out) (N nl : Nat) (x0 : SV) (os : List SO) : X84 K N nl x0 os = B84 K N nl x0 os := by kernel_rfl
theorem E84 (n : Nat) (x0 : SV) (os : List SO) : callF prg (n + 1) 84 [x0] os = X84 (callF prg n) (n + 1) os.length x0 os := by kernel_rfl
theorem U84 {Q : SV → List SO → Prop} {x0 : SV} {os : List SO} {nl : Nat} (hnl : os.length = nl) (h : Ev (fun n => B84 (callF prg n) (n + 1) nl x0 os) Q) : Ev (fun n => callF prg n 84 [x0] os) Q := by subst hnl; exact ev_fun (fun n => (E84 n _ _).trans (X84_s _ _ _ _ _)) h
theorem X85_s (K : Nat → List SV → List SO → Out) (N nl : Nat) (x0 : SV) (os : List SO) : X85 K N nl x0 os = B85 K N nl x0 os := by kernel_rfl
theorem E85 (n : Nat) (x0 : SV) (os : List SO) : callF prg (n + 1) 85 [x0] os = X85 (callF prg n) (n + 1) os.length x0 os := by kernel_rfl
theorem U85 {Q : SV → List SO → Prop} {x0 : SV} {os : List SO} {nl : Nat} (hnl : os.length = nl) (h : Ev (fun n => B85 (callF prg n) (n + 1) nl x0 os) Q) : Ev (fun n => callF prg n 85 [x0] os) Q := by subst hnl; exact ev_fun (fun n => (E85 n _ _).trans (X85_s _ _ _ _ _)) h
theorem L86_4_s (K : Nat → List SV → List SO → Out) (N nl : Nat) (m4 : Nat) (x1 x30 x31 x32 : SV) (os : List SO) : L86_4 K N nl (m4 + 1) x1 x30 x31 x32 os = gcB nl [x1, x30, x31, x32] os fun xs os => G86_4 K N nl m4 xs os := by kernel_rfl
theorem UL86_4 {nl c : Nat} {Q : SV → List SO → Prop} {x1 x30 x31 x32 : SV} {os : List SO} (h : Ev (fun n => gcB nl [x1, x30, x31, x32] os fun xs os => G86_4 (callF prg n) (n + 1) nl (n + 1 - (c + 1)) xs os) Q) : Ev (fun n => L86_4 (callF prg n) (n + 1) nl (n + 1 - c) x1 x30 x31 x32 os) Q := ev_loop (L := fun n m => L86_4 (callF prg n) (n + 1) nl m x1 x30 x31 x32 os) (fun n m => L86_4_s _ _ _ _ _ _ _ _ _) h
theorem VL86_4 {nl : Nat} {Q : SV → List SO → Prop} {x1 x30 x31 x32 : SV} {os : List SO} (h : Ev (fun n => gcB nl [x1, x30, x31, x32] os fun xs os => G86_4 (callF prg n) (n + 1) nl (n + 1 - 1) xs os) Q) : Ev (fun n => L86_4 (callF prg n) (n + 1) nl (n + 1) x1 x30 x31 x32 os) Q := UL86_4 (c := 0) h
theorem G86_4_s (K : Nat → List SV → List SO → Out) (N nl : Nat) (m4 : Nat) (x1 x30 x31 x32 : SV) (os : List SO) : G86_4 K N nl m4 [x1, x30, x31, x32] os = GB86_4 K N nl m4 x1 x30 x31 x32 os := by kernel_rfl
theorem UG86_4 {nl : Nat} {Q : SV → List SO → Prop} (m4 : Nat → Nat) {x1 x30 x31 x32 : SV} {os : List SO} (h : Ev (fun n => GB86_4 (callF prg n) (n + 1) nl (m4 n) x1 x30 x31 x32 os) Q) : Ev (fun n => G86_4 (callF prg n) (n + 1) nl (m4 n) [x1, x30, x31, x32] os) Q := ev_eq (fun n => G86_4_s _ _ _ _ _ _ _ _ _) h
theorem L86_10_s (K : Nat → List SV → List SO → Out) (N nl : Nat) (m10 : Nat) (x1 x65 x66 x67 : SV) (os : List SO) : L86_10 K N nl (m10 + 1) x1 x65 x66 x67 os = gcB nl [x1, x65, x66, x67] os fun xs os => G86_10 K N nl m10 xs os := by kernel_rfl
theorem UL86_10 {nl c : Nat} {Q : SV → List SO → Prop} {x1 x65 x66 x67 : SV} {os : List SO} (h : Ev (fun n => gcB nl [x1, x65, x66, x67] os fun xs os => G86_10 (callF prg n) (n + 1) nl (n + 1 - (c + 1)) xs os) Q) : Ev (fun n => L86_10 (callF prg n) (n + 1) nl (n + 1 - c) x1 x65 x66 x67 os) Q := ev_loop (L := fun n m => L86_10 (callF prg n) (n + 1) nl m x1 x65 x66 x67 os) (fun n m => L86_10_s _ _ _ _ _ _ _ _ _) h
theorem VL86_10 {nl : Nat} {Q : SV → List SO → Prop} {x1 x65 x66 x67 : SV} {os : List SO} (h : Ev (fun n => gcB nl [x1, x65, x66, x67] os fun xs os => G86_10 (callF prg n) (n + 1) nl (n + 1 - 1) xs os) Q) : Ev (fun n => L86_10 (callF prg n) (n + 1) nl (n + 1) x1 x65 x66 x67 os) Q := UL86_10 (c := 0) h
theorem G86_10_s (K : Nat → List SV → List SO → Out) (N nl : Nat) (m10 : Nat) (x1 x65 x66 x67 : SV) (os : List SO) : G86_10 K N nl m10 [x1, x65, x66, x67] os = GB86_10 K N nl m10 x1 x65 x66 x67 os := by kernel_rfl
theorem UG86_10 {nl : Nat} {Q : SV → List SO → Prop} (m10 : Nat → Nat) {x1 x65 x66 x67 : SV} {os : List SO} (h : Ev (fun n => GB86_10 (callF prg n) (n + 1) nl (m10 n) x1 x65 x66 x67 os) Q) : Ev (fun n => G86_10 (callF prg n) (n + 1) nl (m10 n) [x1, x65, x66, x67] os) Q := ev_eq (fun n => G86_10_s _ _ _ _ _ _ _ _ _) h
theorem X86_s (K : Nat → List SV → List SO → Out) (N nl : Nat) (x0 : SV) (os : List SO) : X86 K N nl x0 os = B86 K N nl x0 os := by kernel_rfl
theorem E86 (n : Nat) (x0 : SV) (os : List SO) : callF prg (n + 1) 86 [x0] os = X86 (callF prg n) (n + 1) os.length x0 os := by kernel_rfl
theorem U86 {Q : SV → List SO → Prop} {x0 : SV} {os : List SO} {nl : Nat} (hnl : os.length = nl) (h : Ev (fun n => B86 (callF prg n) (n + 1) nl x0 os) Q) : Ev (fun n => callF prg n 86 [x0] os) Q := by subst hnl; exact ev_fun (fun n => (E86 n _ _).trans (X86_s _ _ _ _ _)) h
theorem X87_s (K : Nat → List SV → List SO → Out) (N nl : Nat) (x0 x1 : SV) (os : List SO) : X87 K N nl x0 x1 os = B87 K N nl x0 x1 os := by kernel_rfl
theorem E87 (n : Nat) (x0 x1 : SV) (os : List SO) : callF prg (n + 1) 87 [x0, x1] os = X87 (callF prg n) (n + 1) os.length x0 x1 os := by kernel_rfl
theorem U87 {Q : SV → List SO → Prop} {x0 x1 : SV} {os : List SO} {nl : Nat} (hnl : os.length = nl) (h : Ev (fun n => B87 (callF prg n) (n + 1) nl x0 x1 os) Q) : Ev (fun n => callF prg n 87 [x0, x1] os) Q := by subst hnl; exact ev_fun (fun n => (E87 n _ _ _).trans (X87_s _ _ _ _ _ _)) h
theorem E88 (n : Nat) (xs : List SV) (os : List SO) : callF prg (n + 1) 88 xs os = cloneS 2 16 xs os := by kernel_rfl
theorem E89 (n : Nat) (xs : List SV) (os : List SO) : callF prg (n + 1) 89 xs os = cloneS 2 16 xs os := by kernel_rfl
theorem X90_s (K : Nat → List SV → List SO → Out) (N nl : Nat) (x0 : SV) (os : List SO) : X90 K N nl x0 os = B90 K N nl x0 os := by kernel_rfl
theorem E90 (n : Nat) (x0 : SV) (os : List SO) : callF prg (n + 1) 90 [x0] os = X90 (callF prg n) (n + 1) os.length x0 os := by kernel_rfl
theorem U90 {Q : SV → List SO → Prop} {x0 : SV} {os : List SO} {nl : Nat} (hnl : os.length = nl) (h : Ev (fun n => B90 (callF prg n) (n + 1) nl x0 os) Q) : Ev (fun n => callF prg n 90 [x0] os) Q := by subst hnl; exact ev_fun (fun n => (E90 n _ _).trans (X90_s _ _ _ _ _)) h
theorem X91_s (K : Nat → List SV → List SO → Out) (N nl : Nat) (x0 x1 x2 x3 : SV) (os : List SO) : X91 K N nl x0 x1 x2 x3 os = B91 K N nl x0 x1 x2 x3 os := by kernel_rfl
theorem E91 (n : Nat) (x0 x1 x2 x3 : SV) (os : List SO) : callF prg (n + 1) 91 [x0, x1, x2, x3] os = X91 (callF prg n) (n + 1) os.length x0 x1 x2 x3 os := by kernel_rfl
theorem U91 {Q : SV → List SO → Prop} {x0 x1 x2 x3 : SV} {os : List SO} {nl : Nat} (hnl : os.length = nl) (h : Ev (fun n => B91 (callF prg n) (n + 1) nl x0 x1 x2 x3 os) Q) : Ev (fun n => callF prg n 91 [x0, x1, x2, x3] os) Q := by subst hnl; exact ev_fun (fun n => (E91 n _ _ _ _ _).trans (X91_s _ _ _ _ _ _ _ _)) h
theorem X92_s (K : Nat → List SV → List SO → Out) (N nl : Nat) (x0 x1 : SV) (os : List SO) : X92 K N nl x0 x1 os = B92 K N nl x0 x1 os := by kernel_rfl
theorem E92 (n : Nat) (x0 x1 : SV) (os : List SO) : callF prg (n + 1) 92 [x0, x1] os = X92 (callF prg n) (n + 1) os.length x0 x1 os := by kernel_rfl
theorem U92 {Q : SV → List SO → Prop} {x0 x1 : SV} {os : List SO} {nl : Nat} (hnl : os.length = nl) (h : Ev (fun n => B92 (callF prg n) (n + 1) nl x0 x1 os) Q) : Ev (fun n => callF prg n 92 [x0, x1] os) Q := by subst hnl; exact ev_fun (fun n => (E92 n _ _ _).trans (X92_s _ _ _ _ _ _)) h
theorem X93_s (K : Nat → List SV → List SO → Out) (N nl : Nat) (x0 x1 : SV) (os : List SO) : X93 K N nl x0 x1 os = B93 K N nl x0 x1 os := by kernel_rfl
theorem E93 (n : Nat) (x0 x1 : SV) (os : List SO) : callF prg (n + 1) 93 [x0, x1] os = X93 (callF prg n) (n + 1) os.length x0 x1 os := by kernel_rfl
theorem U93 {Q : SV → List SO → Prop} {x0 x1 : SV} {os : List SO} {nl : Nat} (hnl : os.length = nl) (h : Ev (fun n => B93 (callF prg n) (n + 1) nl x0 x1 os) Q) : Ev (fun n => callF prg n 93 [x0, x1] os) Q := by subst hnl; exact ev_fun (fun n => (E93 n _ _ _).trans (X93_s _ _ _ _ _ _)) h
theorem L94_3_s (K : Nat → List SV → List SO → Out) (N nl : Nat) (m3 : Nat) (x0 x3 x4 : SV) (os : List SO) : L94_3 K N nl (m3 + 1) x0 x3 x4 os = LB94_3 K N nl m3 x0 x3 x4 os := by kernel_rfl
theorem UL94_3 {nl c : Nat} {Q : SV → List SO → Prop} {x0 x3 x4 : SV} {os : List SO} (h : Ev (fun n => LB94_3 (callF prg n) (n + 1) nl (n + 1 - (c + 1)) x0 x3 x4 os) Q) : Ev (fun n => L94_3 (callF prg n) (n + 1) nl (n + 1 - c) x0 x3 x4 os) Q := ev_loop (L := fun n m => L94_3 (callF prg n) (n + 1) nl m x0 x3 x4 os) (fun n m => L94_3_s _ _ _ _ _ _ _ _) h
theorem VL94_3 {nl : Nat} {Q : SV → List SO → Prop} {x0 x3 x4 : SV} {os : List SO} (h : Ev (fun n => LB94_3 (callF prg n) (n + 1) nl (n + 1 - 1) x0 x3 x4 os) Q) : Ev (fun n => L94_3 (callF prg n) (n + 1) nl (n + 1) x0 x3 x4 os) Q := UL94_3 (c := 0) h
theorem X94_s (K : Nat → List SV → List SO → Out) (N nl : Nat) (x0 : SV) (os : List SO) : X94 K N nl x0 os = B94 K N nl x0 os := by kernel_rfl
theorem E94 (n : Nat) (x0 : SV) (os : List SO) : callF prg (n + 1) 94 [x0] os = X94 (callF prg n) (n + 1) os.length x0 os := by kernel_rfl
theorem U94 {Q : SV → List SO → Prop} {x0 : SV} {os : List SO} {nl : Nat} (hnl : os.length = nl) (h : Ev (fun n => B94 (callF prg n) (n + 1) nl x0 os) Q) : Ev (fun n => callF prg n 94 [x0] os) Q := by subst hnl; exact ev_fun (fun n => (E94 n _ _).trans (X94_s _ _ _ _ _)) h
theorem L95_3_s (K : Nat → List SV → List SO → Out) (N nl : Nat) (m3 : Nat) (x0 x3 x4 : SV) (os : List SO) : L95_3 K N nl (m3 + 1) x0 x3 x4 os = LB95_3 K N nl m3 x0 x3 x4 os := by kernel_rfl
theorem UL95_3 {nl c : Nat} {Q : SV → List SO → Prop} {x0 x3 x4 : SV} {os : List SO} (h : Ev (fun n => LB95_3 (callF prg n) (n + 1) nl (n + 1 - (c + 1)) x0 x3 x4 os) Q) : Ev (fun n => L95_3 (callF prg n) (n + 1) nl (n + 1 - c) x0 x3 x4 os) Q := ev_loop (L := fun n m => L95_3 (callF prg n) (n + 1) nl m x0 x3 x4 os) (fun n m => L95_3_s _ _ _ _ _ _ _ _) h
theorem VL95_3 {nl : Nat} {Q : SV → List SO → Prop} {x0 x3 x4 : SV} {os : List SO} (h : Ev (fun n => LB95_3 (callF prg n) (n + 1) nl (n + 1 - 1) x0 x3 x4 os) Q) : Ev (fun n => L95_3 (callF prg n) (n + 1) nl (n + 1) x0 x3 x4 os) Q := UL95_3 (c := 0) h
theorem X95_s (K : Nat → List SV → List SO → Out) (N nl : Nat) (x0 : SV) (os : List SO) : X95 K N nl x0 os = B95 K N nl x0 os := by kernel_rfl
theorem E95 (n : Nat) (x0 : SV) (os : List SO) : callF prg (n + 1) 95 [x0] os = X95 (callF prg n) (n + 1) os.length x0 os := by kernel_rfl
theorem U95 {Q : SV → List SO → Prop} {x0 : SV} {os : List SO} {nl : Nat} (hnl : os.length = nl) (h : Ev (fun n => B95 (callF prg n) (n + 1) nl x0 os) Q) : Ev (fun n => callF prg n 95 [x0] os) Q := by subst hnl; exact ev_fun (fun n => (E95 n _ _).trans (X95_s _ _ _ _ _)) h
theorem L96_2_s (K : Nat → List SV → List SO → Out) (N nl : Nat) (m2 : Nat) (x0 x1 x7 x8 : SV) (os : List SO) : L96_2 K N nl (m2 + 1) x0 x1 x7 x8 os = LB96_2 K N nl m2 x0 x1 x7 x8 os := by kernel_rfl
theorem UL96_2 {nl c : Nat} {Q : SV → List SO → Prop} {x0 x1 x7 x8 : SV} {os : List SO} (h : Ev (fun n => LB96_2 (callF prg n) (n + 1) nl (n + 1 - (c + 1)) x0 x1 x7 x8 os) Q) : Ev (fun n => L96_2 (callF prg n) (n + 1) nl (n + 1 - c) x0 x1 x7 x8 os) Q := ev_loop (L := fun n m => L96_2 (callF prg n) (n + 1) nl m x0 x1 x7 x8 os) (fun n m => L96_2_s _ _ _ _ _ _ _ _ _) h
theorem VL96_2 {nl : Nat} {Q : SV → List SO → Prop} {x0 x1 x7 x8 : SV} {os : List SO} (h : Ev (fun n => LB96_2 (callF prg n) (n + 1) nl (n + 1 - 1) x0 x1 x7 x8 os) Q) : Ev (fun n => L96_2 (callF prg n) (n + 1) nl (n + 1) x0 x1 x7 x8 os) Q := UL96_2 (c := 0) h
theorem X96_s (K : Nat → List SV → List SO → Out) (N nl : Nat) (x0 x1 : SV) (os : List SO) : X96 K N nl x0 x1 os = B96 K N nl x0 x1 os := by kernel_rfl
theorem E96 (n : Nat) (x0 x1 : SV) (os : List SO) : callF prg (n + 1) 96 [x0, x1] os = X96 (callF prg n) (n + 1) os.length x0 x1 os := by kernel_rfl
theorem U96 {Q : SV → List SO → Prop} {x0 x1 : SV} {os : List SO} {nl : Nat} (hnl : os.length = nl) (h : Ev (fun n => B96 (callF prg n) (n + 1) nl x0 x1 os) Q) : Ev (fun n => callF prg n 96 [x0, x1] os) Q := by subst hnl; exact ev_fun (fun n => (E96 n _ _ _).trans (X96_s _ _ _ _ _ _)) h
theorem X97_s (K : Nat → List SV → List SO → Out) (N nl : Nat) (x0 x1 : SV) (os : List SO) : X97 K N nl x0 x1 os = B97 K N nl x0 x1 os := by kernel_rfl
theorem E97 (n : Nat) (x0 x1 : SV) (os : List SO) : callF prg (n + 1) 97 [x0, x1] os = X97 (callF prg n) (n + 1) os.length x0 x1 os := by kernel_rfl
theorem U97 {Q : SV → List SO → Prop} {x0 x1 : SV} {os : List SO} {nl : Nat} (hnl : os.length = nl) (h : Ev (fun n => B97 (callF prg n) (n + 1) nl x0 x1 os) Q) : Ev (fun n => callF prg n 97 [x0, x1] os) Q := by subst hnl; exact ev_fun (fun n => (E97 n _ _ _).trans (X97_s _ _ _ _ _ _)) h
theorem X98_s (K : Nat → List SV → List SO → Out) (N nl : Nat) (x0 x1 : SV) (os : List SO) : X98 K N nl x0 x1 os = B98 K N nl x0 x1 os := by kernel_rfl
theorem E98 (n : Nat) (x0 x1 : SV) (os : List SO) : callF prg (n + 1) 98 [x0, x1] os = X98 (callF prg n) (n + 1) os.length x0 x1 os := by kernel_rfl
theorem U98 {Q : SV → List SO → Prop} {x0 x1 : SV} {os : List SO} {nl : Nat} (hnl : os.length = nl) (h : Ev (fun n => B98 (callF prg n) (n + 1) nl x0 x1 os) Q) : Ev (fun n => callF prg n 98 [x0, x1] os) Q := by subst hnl; exact ev_fun (fun n => (E98 n _ _ _).trans (X98_s _ _ _ _ _ _)) h
theorem L99_4_s (K : Nat → List SV → List SO → Out) (N nl : Nat) (m4 : Nat) (x0 x1 x8 x9 : SV) (os : List SO) : L99_4 K N nl (m4 + 1) x0 x1 x8 x9 os = LB99_4 K N nl m4 x0 x1 x8 x9 os := by kernel_rfl
theorem UL99_4 {nl c : Nat} {Q : SV → List SO → Prop} {x0 x1 x8 x9 : SV} {os : List SO} (h : Ev (fun n => LB99_4 (callF prg n) (n + 1) nl (n + 1 - (c + 1)) x0 x1 x8 x9 os) Q) : Ev (fun n => L99_4 (callF prg n) (n + 1) nl (n + 1 - c) x0 x1 x8 x9 os) Q := ev_loop (L := fun n m => L99_4 (callF prg n) (n + 1) nl m x0 x1 x8 x9 os) (fun n m => L99_4_s _ _ _ _ _ _ _ _ _) h
theorem VL99_4 {nl : Nat} {Q : SV → List SO → Prop} {x0 x1 x8 x9 : SV} {os : List SO} (h : Ev (fun n => LB99_4 (callF prg n) (n + 1) nl (n + 1 - 1) x0 x1 x8 x9 os) Q) : Ev (fun n => L99_4 (callF prg n) (n + 1) nl (n + 1) x0 x1 x8 x9 os) Q := UL99_4 (c := 0) h
theorem L99_9_s (K : Nat → List SV → List SO → Out) (N nl : Nat) (m9 : Nat) (x0 x1 x8 x10 x11 : SV) (os : List SO) : L99_9 K N nl (m9 + 1) x0 x1 x8 x10 x11 os = gcB nl [x0, x1, x8, x10, x11] os fun xs os => G99_9 K N nl m9 xs os := by kernel_rfl
theorem UL99_9 {nl c : Nat} {Q : SV → List SO → Prop} {x0 x1 x8 x10 x11 : SV} {os : List SO} (h : Ev (fun n => gcB nl [x0, x1, x8, x10, x11] os fun xs os => G99_9 (callF prg n) (n + 1) nl (n + 1 - (c + 1)) xs os) Q) : Ev (fun n => L99_9 (callF prg n) (n + 1) nl (n + 1 - c) x0 x1 x8 x10 x11 os) Q := ev_loop (L := fun n m => L99_9 (callF prg n) (n + 1) nl m x0 x1 x8 x10 x11 os) (fun n m => L99_9_s _ _ _ _ _ _ _ _ _ _) h
theorem VL99_9 {nl : Nat} {Q : SV → List SO → Prop} {x0 x1 x8 x10 x11 : SV} {os : List SO} (h : Ev (fun n => gcB nl [x0, x1, x8, x10, x11] os fun xs os => G99_9 (callF prg n) (n + 1) nl (n + 1 - 1) xs os) Q) : Ev (fun n => L99_9 (callF prg n) (n + 1) nl (n + 1) x0 x1 x8 x10 x11 os) Q := UL99_9 (c := 0) h
theorem G99_9_s (K : Nat → List SV → List SO → Out) (N nl : Nat) (m9 : Nat) (x0 x1 x8 x10 x11 : SV) (os : List SO) : G99_9 K N nl m9 [x0, x1, x8, x10, x11] os = GB99_9 K N nl m9 x0 x1 x8 x10 x11 os := by kernel_rfl
theorem UG99_9 {nl : Nat} {Q : SV → List SO → Prop} (m9 : Nat → Nat) {x0 x1 x8 x10 x11 : SV} {os : List SO} (h : Ev (fun n => GB99_9 (callF prg n) (n + 1) nl (m9 n) x0 x1 x8 x10 x11 os) Q) : Ev (fun n => G99_9 (callF prg n) (n + 1) nl (m9 n) [x0, x1, x8, x10, x11] os) Q := ev_eq (fun n => G99_9_s _ _ _ _ _ _ _ _ _ _) h
theorem J99_10_s (K : Nat → List SV → List SO → Out) (N nl : Nat) (m9 : Nat) (x0 x1 x8 x10 x11 : SV) (os : List SO) : J99_10 K N nl m9 x0 x1 x8 x10 x11 os = JB99_10 K N nl m9 x0 x1 x8 x10 x11 os := by kernel_rfl
theorem UJ99_10 {nl : Nat} {Q : SV → List SO → Prop} {m9 : Nat → Nat} {x0 x1 x8 x10 x11 : SV} {os : List SO} (h : Ev (fun n => JB99_10 (callF prg n) (n + 1) nl (m9 n) x0 x1 x8 x10 x11 os) Q) : Ev (fun n => J99_10 (callF prg n) (n + 1) nl (m9 n) x0 x1 x8 x10 x11 os) Q := ev_eq (fun n => J99_10_s _ _ _ _ _ _ _ _ _ _) h
theorem L99_17_s (K : Nat → List SV → List SO → Out) (N nl : Nat) (m9 : Nat) (m17 : Nat) (x0 x1 x8 x10 x12 x14 : SV) (os : List SO) : L99_17 K N nl m9 (m17 + 1) x0 x1 x8 x10 x12 x14 os = LB99_17 K N nl m9 m17 x0 x1 x8 x10 x12 x14 os := by kernel_rfl
theorem UL99_17 {nl c : Nat} {Q : SV → List SO → Prop} {m9 : Nat → Nat} {x0 x1 x8 x10 x12 x14 : SV} {os : List SO} (h : Ev (fun n => LB99_17 (callF prg n) (n + 1) nl (m9 n) (n + 1 - (c + 1)) x0 x1 x8 x10 x12 x14 os) Q) : Ev (fun n => L99_17 (callF prg n) (n + 1) nl (m9 n) (n + 1 - c) x0 x1 x8 x10 x12 x14 os) Q := ev_loop (L := fun n m => L99_17 (callF prg n) (n + 1) nl (m9 n) m x0 x1 x8 x10 x12 x14 os) (fun n m => L99_17_s _ _ _ _ _ _ _ _ _ _ _ _) h
theorem VL99_17 {nl : Nat} {Q : SV → List SO → Prop} {m9 : Nat → Nat} {x0 x1 x8 x10 x12 x14 : SV} {os : List SO} (h : Ev (fun n => LB99_17 (callF prg n) (n + 1) nl (m9 n) (n + 1 - 1) x0 x1 x8 x10 x12 x14 os) Q) : Ev (fun n => L99_17 (callF prg n) (n + 1) nl (m9 n) (n + 1) x0 x1 x8 x10 x12 x14 os) Q := UL99_17 (c := 0) h
theorem X99_s (K : Nat → List SV → List SO → Out) (N nl : Nat) (x0 x1 x2 : SV) (os : List SO) : X99 K N nl x0 x1 x2 os = B99 K N nl x0 x1 x2 os := by kernel_rfl
theorem E99 (n : Nat) (x0 x1 x2 : SV) (os : List SO) : callF prg (n + 1) 99 [x0, x1, x2] os = X99 (callF prg n) (n + 1) os.length x0 x1 x2 os := by kernel_rfl
theorem U99 {Q : SV → List SO → Prop} {x0 x1 x2 : SV} {os : List SO} {nl : Nat} (hnl : os.length = nl) (h : Ev (fun n => B99 (callF prg n) (n + 1) nl x0 x1 x2 os) Q) : Ev (fun n => callF prg n 99 [x0, x1, x2] os) Q := by subst hnl; exact ev_fun (fun n => (E99 n _ _ _ _).trans (X99_s _ _ _ _ _ _ _)) h
theorem L100_4_s (K : Nat → List SV → List SO → Out) (N nl : Nat) (m4 : Nat) (x0 x1 x6 x7 x8 x9 : SV) (os : List SO) : L100_4 K N nl (m4 + 1) x0 x1 x6 x7 x8 x9 os = gcB nl [x0, x1, x6, x7, x8, x9] os fun xs os => G100_4 K N nl m4 xs os := by kernel_rfl
theorem UL100_4 {nl c : Nat} {Q : SV → List SO → Prop} {x0 x1 x6 x7 x8 x9 : SV} {os : List SO} (h : Ev (fun n => gcB nl [x0, x1, x6, x7, x8, x9] os fun xs os => G100_4 (callF prg n) (n + 1) nl (n + 1 - (c + 1)) xs os) Q) : Ev (fun n => L100_4 (callF prg n) (n + 1) nl (n + 1 - c) x0 x1 x6 x7 x8 x9 os) Q := ev_loop (L := fun n m => L100_4 (callF prg n) (n + 1) nl m x0 x1 x6 x7 x8 x9 os) (fun n m => L100_4_s _ _ _ _ _ _ _ _ _ _ _) h
theorem VL100_4 {nl : Nat} {Q : SV → List SO → Prop} {x0 x1 x6 x7 x8 x9 : SV} {os : List SO} (h : Ev (fun n => gcB nl [x0, x1, x6, x7, x8, x9] os fun xs os => G100_4 (callF prg n) (n + 1) nl (n + 1 - 1) xs os) Q) : Ev (fun n => L100_4 (callF prg n) (n + 1) nl (n + 1) x0 x1 x6 x7 x8 x9 os) Q := UL100_4 (c := 0) h
theorem G100_4_s (K : Nat → List SV → List SO → Out) (N nl : Nat) (m4 : Nat) (x0 x1 x6 x7 x8 x9 : SV) (os : List SO) : G100_4 K N nl m4 [x0, x1, x6, x7, x8, x9] os = GB100_4 K N nl m4 x0 x1 x6 x7 x8 x9 os := by kernel_rfl
theorem UG100_4 {nl : Nat} {Q : SV → List SO → Prop} (m4 : Nat → Nat) {x0 x1 x6 x7 x8 x9 : SV} {os : List SO} (h : Ev (fun n => GB100_4 (callF prg n) (n + 1) nl (m4 n) x0 x1 x6 x7 x8 x9 os) Q) : Ev (fun n => G100_4 (callF prg n) (n + 1) nl (m4 n) [x0, x1, x6, x7, x8, x9] os) Q := ev_eq (fun n => G100_4_s _ _ _ _ _ _ _ _ _ _ _) h
theorem L100_9_s (K : Nat → List SV → List SO → Out) (N nl : Nat) (m9 : Nat) (x0 x1 x6 x7 x10 : SV) (os : List SO) : L100_9 K N nl (m9 + 1) x0 x1 x6 x7 x10 os = gcB nl [x0, x1, x6, x7, x10] os fun xs os => G100_9 K N nl m9 xs os := by kernel_rfl
theorem UL100_9 {nl c : Nat} {Q : SV → List SO → Prop} {x0 x1 x6 x7 x10 : SV} {os : List SO} (h : Ev (fun n => gcB nl [x0, x1, x6, x7, x10] os fun xs os => G100_9 (callF prg n) (n + 1) nl (n + 1 - (c + 1)) xs os) Q) : Ev (fun n => L100_9 (callF prg n) (n + 1) nl (n + 1 - c) x0 x1 x6 x7 x10 os) Q := ev_loop (L := fun n m => L100_9 (callF prg n) (n + 1) nl m x0 x1 x6 x7 x10 os) (fun n m => L100_9_s _ _ _ _ _ _ _ _ _ _) h
theorem VL100_9 {nl : Nat} {Q : SV → List SO → Prop} {x0 x1 x6 x7 x10 : SV} {os : List SO} (h : Ev (fun n => gcB nl [x0, x1, x6, x7, x10] os fun xs os => G100_9 (callF prg n) (n + 1) nl (n + 1 - 1) xs os) Q) : Ev (fun n => L100_9 (callF prg n) (n + 1) nl (n + 1) x0 x1 x6 x7 x10 os) Q := UL100_9 (c := 0) h
theorem G100_9_s (K : Nat → List SV → List SO → Out) (N nl : Nat) (m9 : Nat) (x0 x1 x6 x7 x10 : SV) (os : List SO) : G100_9 K N nl m9 [x0, x1, x6, x7, x10] os = GB100_9 K N nl m9 x0 x1 x6 x7 x10 os := by kernel_rfl
theorem UG100_9 {nl : Nat} {Q : SV → List SO → Prop} (m9 : Nat → Nat) {x0 x1 x6 x7 x10 : SV} {os : List SO} (h : Ev (fun n => GB100_9 (callF prg n) (n + 1) nl (m9 n) x0 x1 x6 x7 x10 os) Q) : Ev (fun n => G100_9 (callF prg n) (n + 1) nl (m9 n) [x0, x1, x6, x7, x10] os) Q := ev_eq (fun n => G100_9_s _ _ _ _ _ _ _ _ _ _) h
theorem J100_10_s (K : Nat → List SV → List SO → Out) (N nl : Nat) (m9 : Nat) (x0 x1 x6 x7 x10 : SV) (os : List SO) : J100_10 K N nl m9 x0 x1 x6 x7 x10 os = JB100_10 K N nl m9 x0 x1 x6 x7 x10 os := by kernel_rfl
theorem UJ100_10 {nl : Nat} {Q : SV → List SO → Prop} {m9 : Nat → Nat} {x0 x1 x6 x7 x10 : SV} {os : List SO} (h : Ev (fun n => JB100_10 (callF prg n) (n + 1) nl (m9 n) x0 x1 x6 x7 x10 os) Q) : Ev (fun n => J100_10 (callF prg n) (n + 1) nl (m9 n) x0 x1 x6 x7 x10 os) Q := ev_eq (fun n => J100_10_s _ _ _ _ _ _ _ _ _ _) h
theorem X100_s (K : Nat → List SV → List SO → Out) (N nl : Nat) (x0 x1 x2 : SV) (os : List SO) : X100 K N nl x0 x1 x2 os = B100 K N nl x0 x1 x2 os := by kernel_rfl
theorem E100 (n : Nat) (x0 x1 x2 : SV) (os : List SO) : callF prg (n + 1) 100 [x0, x1, x2] os = X100 (callF prg n) (n + 1) os.length x0 x1 x2 os := by kernel_rfl
theorem U100 {Q : SV → List SO → Prop} {x0 x1 x2 : SV} {os : List SO} {nl : Nat} (hnl : os.length = nl) (h : Ev (fun n => B100 (callF prg n) (n + 1) nl x0 x1 x2 os) Q) : Ev (fun n => callF prg n 100 [x0, x1, x2] os) Q := by subst hnl; exact ev_fun (fun n => (E100 n _ _ _ _).trans (X100_s _ _ _ _ _ _ _)) h
theorem L101_2_s (K : Nat → List SV → List SO → Out) (N nl : Nat) (m2 : Nat) (x0 x1 x2 x7 : SV) (os : List SO) : L101_2 K N nl (m2 + 1) x0 x1 x2 x7 os = LB101_2 K N nl m2 x0 x1 x2 x7 os := by kernel_rfl
theorem UL101_2 {nl c : Nat} {Q : SV → List SO → Prop} {x0 x1 x2 x7 : SV} {os : List SO} (h : Ev (fun n => LB101_2 (callF prg n) (n + 1) nl (n + 1 - (c + 1)) x0 x1 x2 x7 os) Q) : Ev (fun n => L101_2 (callF prg n) (n + 1) nl (n + 1 - c) x0 x1 x2 x7 os) Q := ev_loop (L := fun n m => L101_2 (callF prg n) (n + 1) nl m x0 x1 x2 x7 os) (fun n m => L101_2_s _ _ _ _ _ _ _ _ _) h
theorem VL101_2 {nl : Nat} {Q : SV → List SO → Prop} {x0 x1 x2 x7 : SV} {os : List SO} (h : Ev (fun n => LB101_2 (callF prg n) (n + 1) nl (n + 1 - 1) x0 x1 x2 x7 os) Q) : Ev (fun n => L101_2 (callF prg n) (n + 1) nl (n + 1) x0 x1 x2 x7 os) Q := UL101_2 (c := 0) h
theorem X101_s (K : Nat → List SV → List SO → Out) (N nl : Nat) (x0 x1 x2 : SV) (os : List SO) : X101 K N nl x0 x1 x2 os = B101 K N nl x0 x1 x2 os := by kernel_rfl
theorem E101 (n : Nat) (x0 x1 x2 : SV) (os : List SO) : callF prg (n + 1) 101 [x0, x1, x2] os = X101 (callF prg n) (n + 1) os.length x0 x1 x2 os := by kernel_rfl
theorem U101 {Q : SV → List SO → Prop} {x0 x1 x2 : SV} {os : List SO} {nl : Nat} (hnl : os.length = nl) (h : Ev (fun n => B101 (callF prg n) (n + 1) nl x0 x1 x2 os) Q) : Ev (fun n => callF prg n 101 [x0, x1, x2] os) Q := by subst hnl; exact ev_fun (fun n => (E101 n _ _ _ _).trans (X101_s _ _ _ _ _ _ _)) h
theorem L102_3_s (K : Nat → List SV → List SO → Out) (N nl : Nat) (m3 : Nat) (x0 x3 x5 x6 : SV) (os : List SO) : L102_3 K N nl (m3 + 1) x0 x3 x5 x6 os = gcB nl [x0, x3, x5, x6] os fun xs os => G102_3 K N nl m3 xs os := by kernel_rfl
theorem UL102_3 {nl c : Nat} {Q : SV → List SO → Prop} {x0 x3 x5 x6 : SV} {os : List SO} (h : Ev (fun n => gcB nl [x0, x3, x5, x6] os fun xs os => G102_3 (callF prg n) (n + 1) nl (n + 1 - (c + 1)) xs os) Q) : Ev (fun n => L102_3 (callF prg n) (n + 1) nl (n + 1 - c) x0 x3 x5 x6 os) Q := ev_loop (L := fun n m => L102_3 (callF prg n) (n + 1) nl m x0 x3 x5 x6 os) (fun n m => L102_3_s _ _ _ _ _ _ _ _ _) h
theorem VL102_3 {nl : Nat} {Q : SV → List SO → Prop} {x0 x3 x5 x6 : SV} {os : List SO} (h : Ev (fun n => gcB nl [x0, x3, x5, x6] os fun xs os => G102_3 (callF prg n) (n + 1) nl (n + 1 - 1) xs os) Q) : Ev (fun n => L102_3 (callF prg n) (n + 1) nl (n + 1) x0 x3 x5 x6 os) Q := UL102_3 (c := 0) h
theorem G102_3_s (K : Nat → List SV → List SO → Out) (N nl : Nat) (m3 : Nat) (x0 x3 x5 x6 : SV) (os : List SO) : G102_3 K N nl m3 [x0, x3, x5, x6] os = GB102_3 K N nl m3 x0 x3 x5 x6 os := by kernel_rfl
theorem UG102_3 {nl : Nat} {Q : SV → List SO → Prop} (m3 : Nat → Nat) {x0 x3 x5 x6 : SV} {os : List SO} (h : Ev (fun n => GB102_3 (callF prg n) (n + 1) nl (m3 n) x0 x3 x5 x6 os) Q) : Ev (fun n => G102_3 (callF prg n) (n + 1) nl (m3 n) [x0, x3, x5, x6] os) Q := ev_eq (fun n => G102_3_s _ _ _ _ _ _ _ _ _) h
theorem J102_4_s (K : Nat → List SV → List SO → Out) (N nl : Nat) (m3 : Nat) (x0 x3 x5 x6 : SV) (os : List SO) : J102_4 K N nl m3 x0 x3 x5 x6 os = JB102_4 K N nl m3 x0 x3 x5 x6 os := by kernel_rfl
theorem UJ102_4 {nl : Nat} {Q : SV → List SO → Prop} {m3 : Nat → Nat} {x0 x3 x5 x6 : SV} {os : List SO} (h : Ev (fun n => JB102_4 (callF prg n) (n + 1) nl (m3 n) x0 x3 x5 x6 os) Q) : Ev (fun n => J102_4 (callF prg n) (n + 1) nl (m3 n) x0 x3 x5 x6 os) Q := ev_eq (fun n => J102_4_s _ _ _ _ _ _ _ _ _) h
theorem L102_9_s (K : Nat → List SV → List SO → Out) (N nl : Nat) (m9 : Nat) (x0 x3 x5 x7 : SV) (os : List SO) : L102_9 K N nl (m9 + 1) x0 x3 x5 x7 os = gcB nl [x0, x3, x5, x7] os fun xs os => G102_9 K N nl m9 xs os := by kernel_rfl
theorem UL102_9 {nl c : Nat} {Q : SV → List SO → Prop} {x0 x3 x5 x7 : SV} {os : List SO} (h : Ev (fun n => gcB nl [x0, x3, x5, x7] os fun xs os => G102_9 (callF prg n) (n + 1) nl (n + 1 - (c + 1)) xs os) Q) : Ev (fun n => L102_9 (callF prg n) (n + 1) nl (n + 1 - c) x0 x3 x5 x7 os) Q := ev_loop (L := fun n m => L102_9 (callF prg n) (n + 1) nl m x0 x3 x5 x7 os) (fun n m => L102_9_s _ _ _ _ _ _ _ _ _) h
theorem VL102_9 {nl : Nat} {Q : SV → List SO → Prop} {x0 x3 x5 x7 : SV} {os : List SO} (h : Ev (fun n => gcB nl [x0, x3, x5, x7] os fun xs os => G102_9 (callF prg n) (n + 1) nl (n + 1 - 1) xs os) Q) : Ev (fun n => L102_9 (callF prg n) (n + 1) nl (n + 1) x0 x3 x5 x7 os) Q := UL102_9 (c := 0) h
theorem G102_9_s (K : Nat → List SV → List SO → Out) (N nl : Nat) (m9 : Nat) (x0 x3 x5 x7 : SV) (os : List SO) : G102_9 K N nl m9 [x0, x3, x5, x7] os = GB102_9 K N nl m9 x0 x3 x5 x7 os := by kernel_rfl
theorem UG102_9 {nl : Nat} {Q : SV → List SO → Prop} (m9 : Nat → Nat) {x0 x3 x5 x7 : SV} {os : List SO} (h : Ev (fun n => GB102_9 (callF prg n) (n + 1) nl (m9 n) x0 x3 x5 x7 os) Q) : Ev (fun n => G102_9 (callF prg n) (n + 1) nl (m9 n) [x0, x3, x5, x7] os) Q := ev_eq (fun n => G102_9_s _ _ _ _ _ _ _ _ _) h
theorem J102_10_s (K : Nat → List SV → List SO → Out) (N nl : Nat) (m9 : Nat) (x0 x3 x5 x7 : SV) (os : List SO) : J102_10 K N nl m9 x0 x3 x5 x7 os = JB102_10 K N nl m9 x0 x3 x5 x7 os := by kernel_rfl
theorem UJ102_10 {nl : Nat} {Q : SV → List SO → Prop} {m9 : Nat → Nat} {x0 x3 x5 x7 : SV} {os : List SO} (h : Ev (fun n => JB102_10 (callF prg n) (n + 1) nl (m9 n) x0 x3 x5 x7 os) Q) : Ev (fun n => J102_10 (callF prg n) (n + 1) nl (m9 n) x0 x3 x5 x7 os) Q := ev_eq (fun n => J102_10_s _ _ _ _ _ _ _ _ _) h
theorem X102_s (K : Nat → List SV → List SO → Out) (N nl : Nat) (x0 x1 : SV) (os : List SO) : X102 K N nl x0 x1 os = B102 K N nl x0 x1 os := by kernel_rfl
theorem E102 (n : Nat) (x0 x1 : SV) (os : List SO) : callF prg (n + 1) 102 [x0, x1] os = X102 (callF prg n) (n + 1) os.length x0 x1 os := by kernel_rfl
theorem U102 {Q : SV → List SO → Prop} {x0 x1 : SV} {os : List SO} {nl : Nat} (hnl : os.length = nl) (h : Ev (fun n => B102 (callF prg n) (n + 1) nl x0 x1 os) Q) : Ev (fun n => callF prg n 102 [x0, x1] os) Q := by subst hnl; exact ev_fun (fun n => (E102 n _ _ _).trans (X102_s _ _ _ _ _ _)) h
theorem X103_s (K : Nat → List SV → List SO → Out) (N nl : Nat) (x0 x1 : SV) (os : List SO) : X103 K N nl x0 x1 os = B103 K N nl x0 x1 os := by kernel_rfl
theorem E103 (n : Nat) (x0 x1 : SV) (os : List SO) : callF prg (n + 1) 103 [x0, x1] os = X103 (callF prg n) (n + 1) os.length x0 x1 os := by kernel_rfl
theorem U103 {Q : SV → List SO → Prop} {x0 x1 : SV} {os : List SO} {nl : Nat} (hnl : os.length = nl) (h : Ev (fun n => B103 (callF prg n) (n + 1) nl x0 x1 os) Q) : Ev (fun n => callF prg n 103 [x0, x1] os) Q := by subst hnl; exact ev_fun (fun n => (E103 n _ _ _).trans (X103_s _ _ _ _ _ _)) h
theorem X104_s (K : Nat → List SV → List SO → Out) (N nl : Nat) (x0 x1 : SV) (os : List SO) : X104 K N nl x0 x1 os = B104 K N nl x0 x1 os := by kernel_rfl
theorem E104 (n : Nat) (x0 x1 : SV) (os : List SO) : callF prg (n + 1) 104 [x0, x1] os = X104 (callF prg n) (n + 1) os.length x0 x1 os := by kernel_rfl
theorem U104 {Q : SV → List SO → Prop} {x0 x1 : SV} {os : List SO} {nl : Nat} (hnl : os.length = nl) (h : Ev (fun n => B104 (callF prg n) (n + 1) nl x0 x1 os) Q) : Ev (fun n => callF prg n 104 [x0, x1] os) Q := by subst hnl; exact ev_fun (fun n => (E104 n _ _ _).trans (X104_s _ _ _ _ _ _)) h
theorem X105_s (K : Nat → List SV → List SO → Out) (N nl : Nat) (x0 x1 : SV) (os : List SO) : X105 K N nl x0 x1 os = B105 K N nl x0 x1 os := by kernel_rfl
theorem E105 (n : Nat) (x0 x1 : SV) (os : List SO) : callF prg (n + 1) 105 [x0, x1] os = X105 (callF prg n) (n + 1) os.length x0 x1 os := by kernel_rfl
theorem U105 {Q : SV → List SO → Prop} {x0 x1 : SV} {os : List SO} {nl : Nat} (hnl : os.length = nl) (h : Ev (fun n => B105 (callF prg n) (n + 1) nl x0 x1 os) Q) : Ev (fun n => callF prg n 105 [x0, x1] os) Q := by subst hnl; exact ev_fun (fun n => (E105 n _ _ _).trans (X105_s _ _ _ _ _ _)) h
theorem L106_2_s (K : Nat → List SV → List SO → Out) (N nl : Nat) (m2 : Nat) (x0 x1 x7 x8 : SV) (os : List SO) : L106_2 K N nl (m2 + 1) x0 x1 x7 x8 os = LB106_2 K N nl m2 x0 x1 x7 x8 os := by kernel_rfl
theorem UL106_2 {nl c : Nat} {Q : SV → List SO → Prop} {x0 x1 x7 x8 : SV} {os : List SO} (h : Ev (fun n => LB106_2 (callF prg n) (n + 1) nl (n + 1 - (c + 1)) x0 x1 x7 x8 os) Q) : Ev (fun n => L106_2 (callF prg n) (n + 1) nl (n + 1 - c) x0 x1 x7 x8 os) Q := ev_loop (L := fun n m => L106_2 (callF prg n) (n + 1) nl m x0 x1 x7 x8 os) (fun n m => L106_2_s _ _ _ _ _ _ _ _ _) h
theorem VL106_2 {nl : Nat} {Q : SV → List SO → Prop} {x0 x1 x7 x8 : SV} {os : List SO} (h : Ev (fun n => LB106_2 (callF prg n) (n + 1) nl (n + 1 - 1) x0 x1 x7 x8 os) Q) : Ev (fun n => L106_2 (callF prg n) (n + 1) nl (n + 1) x0 x1 x7 x8 os) Q := UL106_2 (c := 0) h
theorem X106_s (K : Nat → List SV → List SO → Out) (N nl : Nat) (x0 x1 : SV) (os : List SO) : X106 K N nl x0 x1 os = B106 K N nl x0 x1 os := by kernel_rfl
theorem E106 (n : Nat) (x0 x1 : SV) (os : List SO) : callF prg (n + 1) 106 [x0, x1] os = X106 (callF prg n) (n + 1) os.length x0 x1 os := by kernel_rfl
theorem U106 {Q : SV → List SO → Prop} {x0 x1 : SV} {os : List SO} {nl : Nat} (hnl : os.length = nl) (h : Ev (fun n => B106 (callF prg n) (n + 1) nl x0 x1 os) Q) : Ev (fun n => callF prg n 106 [x0, x1] os) Q := by subst hnl; exact ev_fun (fun n => (E106 n _ _ _).trans (X106_s _ _ _ _ _ _)) h
theorem X107_s (K : Nat → List SV → List SO → Out) (N nl : Nat) (x0 : SV) (os : List SO) : X107 K N nl x0 os = B107 K N nl x0 os := by kernel_rfl
theorem E107 (n : Nat) (x0 : SV) (os : List SO) : callF prg (n + 1) 107 [x0] os = X107 (callF prg n) (n + 1) os.length x0 os := by kernel_rfl
theorem U107 {Q : SV → List SO → Prop} {x0 : SV} {os : List SO} {nl : Nat} (hnl : os.length = nl) (h : Ev (fun n => B107 (callF prg n) (n + 1) nl x0 os) Q) : Ev (fun n => callF prg n 107 [x0] os) Q := by subst hnl; exact ev_fun (fun n => (E107 n _ _).trans (X107_s _ _ _ _ _)) h
theorem X108_s (K : Nat → List SV → List SO → Out) (N nl : Nat) (x0 : SV) (os : List SO) : X108 K N nl x0 os = B108 K N nl x0 os := by kernel_rfl
theorem E108 (n : Nat) (x0 : SV) (os : List SO) : callF prg (n + 1) 108 [x0] os = X108 (callF prg n) (n + 1) os.length x0 os := by kernel_rfl
theorem U108 {Q : SV → List SO → Prop} {x0 : SV} {os : List SO} {nl : Nat} (hnl : os.length = nl) (h : Ev (fun n => B108 (callF prg n) (n + 1) nl x0 os) Q) : Ev (fun n => callF prg n 108 [x0] os) Q := by subst hnl; exact ev_fun (fun n => (E108 n _ _).trans (X108_s _ _ _ _ _)) h
theorem L109_3_s (K : Nat → List SV → List SO → Out) (N nl : Nat) (m3 : Nat) (x3 x6 x7 x8 : SV) (os : List SO) : L109_3 K N nl (m3 + 1) x3 x6 x7 x8 os = LB109_3 K N nl m3 x3 x6 x7 x8 os := by kernel_rfl
theorem UL109_3 {nl c : Nat} {Q : SV → List SO → Prop} {x3 x6 x7 x8 : SV} {os : List SO} (h : Ev (fun n => LB109_3 (callF prg n) (n + 1) nl (n + 1 - (c + 1)) x3 x6 x7 x8 os) Q) : Ev (fun n => L109_3 (callF prg n) (n + 1) nl (n + 1 - c) x3 x6 x7 x8 os) Q := ev_loop (L := fun n m => L109_3 (callF prg n) (n + 1) nl m x3 x6 x7 x8 os) (fun n m => L109_3_s _ _ _ _ _ _ _ _ _) h
theorem VL109_3 {nl : Nat} {Q : SV → List SO → Prop} {x3 x6 x7 x8 : SV} {os : List SO} (h : Ev (fun n => LB109_3 (callF prg n) (n + 1) nl (n + 1 - 1) x3 x6 x7 x8 os) Q) : Ev (fun n => L109_3 (callF prg n) (n + 1) nl (n + 1) x3 x6 x7 x8 os) Q := UL109_3 (c := 0) h
theorem X109_s (K : Nat → List SV → List SO → Out) (N nl : Nat) (x0 : SV) (os : List SO) : X109 K N nl x0 os = B109 K N nl x0 os := by kernel_rfl
theorem E109 (n : Nat) (x0 : SV) (os : List SO) : callF prg (n + 1) 109 [x0] os = X109 (callF prg n) (n + 1) os.length x0 os := by kernel_rfl
theorem U109 {Q : SV → List SO → Prop} {x0 : SV} {os : List SO} {nl : Nat} (hnl : os.length = nl) (h : Ev (fun n => B109 (callF prg n) (n + 1) nl x0 os) Q) : Ev (fun n => callF prg n 109 [x0] os) Q := by subst hnl; exact ev_fun (fun n => (E109 n _ _).trans (X109_s _ _ _ _ _)) h
theorem X110_s (K : Nat → List SV → List SO → Out) (N nl : Nat) (x0 x1 : SV) (os : List SO) : X110 K N nl x0 x1 os = B110 K N nl x0 x1 os := by kernel_rfl
theorem E110 (n : Nat) (x0 x1 : SV) (os : List SO) : callF prg (n + 1) 110 [x0, x1] os = X110 (callF prg n) (n + 1) os.length x0 x1 os := by kernel_rfl
theorem U110 {Q : SV → List SO → Prop} {x0 x1 : SV} {os : List SO} {nl : Nat} (hnl : os.length = nl) (h : Ev (fun n => B110 (callF prg n) (n + 1) nl x0 x1 os) Q) : Ev (fun n => callF prg n 110 [x0, x1] os) Q := by subst hnl; exact ev_fun (fun n => (E110 n _ _ _).trans (X110_s _ _ _ _ _ _)) h
theorem L111_2_s (K : Nat → List SV → List SO → Out) (N nl : Nat) (m2 : Nat) (x0 x3 : SV) (os : List SO) : L111_2 K N nl (m2 + 1) x0 x3 os = LB111_2 K N nl m2 x0 x3 os := by kernel_rfl
theorem UL111_2 {nl c : Nat} {Q : SV → List SO → Prop} {x0 x3 : SV} {os : List SO} (h : Ev (fun n => LB111_2 (callF prg n) (n + 1) nl (n + 1 - (c + 1)) x0 x3 os) Q) : Ev (fun n => L111_2 (callF prg n) (n + 1) nl (n + 1 - c) x0 x3 os) Q := ev_loop (L := fun n m => L111_2 (callF prg n) (n + 1) nl m x0 x3 os) (fun n m => L111_2_s _ _ _ _ _ _ _) h
theorem VL111_2 {nl : Nat} {Q : SV → List SO → Prop} {x0 x3 : SV} {os : List SO} (h : Ev (fun n => LB111_2 (callF prg n) (n + 1) nl (n + 1 - 1) x0 x3 os) Q) : Ev (fun n => L111_2 (callF prg n) (n + 1) nl (n + 1) x0 x3 os) Q := UL111_2 (c := 0) h
theorem X111_s (K : Nat → List SV → List SO → Out) (N nl : Nat) (x0 : SV) (os : List SO) : X111 K N nl x0 os = B111 K N nl x0 os := by kernel_rfl
theorem E111 (n : Nat) (x0 : SV) (os : List SO) : callF prg (n + 1) 111 [x0] os = X111 (callF prg n) (n + 1) os.length x0 os := by kernel_rfl
theorem U111 {Q : SV → List SO → Prop} {x0 : SV} {os : List SO} {nl : Nat} (hnl : os.length = nl) (h : Ev (fun n => B111 (callF prg n) (n + 1) nl x0 os) Q) : Ev (fun n => callF prg n 111 [x0] os) Q := by subst hnl; exact ev_fun (fun n => (E111 n _ _).trans (X111_s _ _ _ _ _)) h
theorem L112_2_s (K : Nat → List SV → List SO → Out) (N nl : Nat) (m2 : Nat) (x0 x1 x5 : SV) (os : List SO) : L112_2 K N nl (m2 + 1) x0 x1 x5 os = gcB nl [x0, x1, x5] os fun xs os => G112_2 K N nl m2 xs os := by kernel_rfl
theorem UL112_2 {nl c : Nat} {Q : SV → List SO → Prop} {x0 x1 x5 : SV} {os : List SO} (h : Ev (fun n => gcB nl [x0, x1, x5] os fun xs os => G112_2 (callF prg n) (n + 1) nl (n + 1 - (c + 1)) xs os) Q) : Ev (fun n => L112_2 (callF prg n) (n + 1) nl (n + 1 - c) x0 x1 x5 os) Q := ev_loop (L := fun n m => L112_2 (callF prg n) (n + 1) nl m x0 x1 x5 os) (fun n m => L112_2_s _ _ _ _ _ _ _ _) h
theorem VL112_2 {nl : Nat} {Q : SV → List SO → Prop} {x0 x1 x5 : SV} {os : List SO} (h : Ev (fun n => gcB nl [x0, x1, x5] os fun xs os => G112_2 (callF prg n) (n + 1) nl (n + 1 - 1) xs os) Q) : Ev (fun n => L112_2 (callF prg n) (n + 1) nl (n + 1) x0 x1 x5 os) Q := UL112_2 (c := 0) h
theorem G112_2_s (K : Nat → List SV → List SO → Out) (N nl : Nat) (m2 : Nat) (x0 x1 x5 : SV) (os : List SO) : G112_2 K N nl m2 [x0, x1, x5] os = GB112_2 K N nl m2 x0 x1 x5 os := by kernel_rfl
theorem UG112_2 {nl : Nat} {Q : SV → List SO → Prop} (m2 : Nat → Nat) {x0 x1 x5 : SV} {os : List SO} (h : Ev (fun n => GB112_2 (callF prg n) (n + 1) nl (m2 n) x0 x1 x5 os) Q) : Ev (fun n => G112_2 (callF prg n) (n + 1) nl (m2 n) [x0, x1, x5] os) Q := ev_eq (fun n => G112_2_s _ _ _ _ _ _ _ _) h
theorem X112_s (K : Nat → List SV → List SO → Out) (N nl : Nat) (x0 x1 : SV) (os : List SO) : X112 K N nl x0 x1 os = B112 K N nl x0 x1 os := by kernel_rfl
theorem E112 (n : Nat) (x0 x1 : SV) (os : List SO) : callF prg (n + 1) 112 [x0, x1] os = X112 (callF prg n) (n + 1) os.length x0 x1 os := by kernel_rfl
theorem U112 {Q : SV → List SO → Prop} {x0 x1 : SV} {os : List SO} {nl : Nat} (hnl : os.length = nl) (h : Ev (fun n => B112 (callF prg n) (n + 1) nl x0 x1 os) Q) : Ev (fun n => callF prg n 112 [x0, x1] os) Q := by subst hnl; exact ev_fun (fun n => (E112 n _ _ _).trans (X112_s _ _ _ _ _ _)) h
theorem X113_s (K : Nat → List SV → List SO → Out) (N nl : Nat) (x0 : SV) (os : List SO) : X113 K N nl x0 os = B113 K N nl x0 os := by kernel_rfl
theorem E113 (n : Nat) (x0 : SV) (os : List SO) : callF prg (n + 1) 113 [x0] os = X113 (callF prg n) (n + 1) os.length x0 os := by kernel_rfl
theorem U113 {Q : SV → List SO → Prop} {x0 : SV} {os : List SO} {nl : Nat} (hnl : os.length = nl) (h : Ev (fun n => B113 (callF prg n) (n + 1) nl x0 os) Q) : Ev (fun n => callF prg n 113 [x0] os) Q := by subst hnl; exact ev_fun (fun n => (E113 n _ _).trans (X113_s _ _ _ _ _)) h
theorem X114_s (K : Nat → List SV → List SO → Out) (N nl : Nat) (x0 : SV) (os : List SO) : X114 K N nl x0 os = B114 K N nl x0 os := by kernel_rfl
theorem E114 (n : Nat) (x0 : SV) (os : List SO) : callF prg (n + 1) 114 [x0] os = X114 (callF prg n) (n + 1) os.length x0 os := by kernel_rfl
theorem U114 {Q : SV → List SO → Prop} {x0 : SV} {os : List SO} {nl : Nat} (hnl : os.length = nl) (h : Ev (fun n => B114 (callF prg n) (n + 1) nl x0 os) Q) : Ev (fun n => callF prg n 114 [x0] os) Q := by subst hnl; exact ev_fun (fun n => (E114 n _ _).trans (X114_s _ _ _ _ _)) h
theorem L115_2_s (K : Nat → List SV → List SO → Out) (N nl : Nat) (m2 : Nat) (x0 x1 x7 x8 : SV) (os : List SO) : L115_2 K N nl (m2 + 1) x0 x1 x7 x8 os = LB115_2 K N nl m2 x0 x1 x7 x8 os := by kernel_rfl
theorem UL115_2 {nl c : Nat} {Q : SV → List SO → Prop} {x0 x1 x7 x8 : SV} {os : List SO} (h : Ev (fun n => LB115_2 (callF prg n) (n + 1) nl (n + 1 - (c + 1)) x0 x1 x7 x8 os) Q) : Ev (fun n => L115_2 (callF prg n) (n + 1) nl (n + 1 - c) x0 x1 x7 x8 os) Q := ev_loop (L := fun n m => L115_2 (callF prg n) (n + 1) nl m x0 x1 x7 x8 os) (fun n m => L115_2_s _ _ _ _ _ _ _ _ _) h
theorem VL115_2 {nl : Nat} {Q : SV → List SO → Prop} {x0 x1 x7 x8 : SV} {os : List SO} (h : Ev (fun n => LB115_2 (callF prg n) (n + 1) nl (n + 1 - 1) x0 x1 x7 x8 os) Q) : Ev (fun n => L115_2 (callF prg n) (n + 1) nl (n + 1) x0 x1 x7 x8 os) Q := UL115_2 (c := 0) h
theorem X115_s (K : Nat → List SV → List SO → Out) (N nl : Nat) (x0 x1 : SV) (os : List SO) : X115 K N nl x0 x1 os = B115 K N nl x0 x1 os := by kernel_rfl
theorem E115 (n : Nat) (x0 x1 : SV) (os : List SO) : callF prg (n + 1) 115 [x0, x1] os = X115 (callF prg n) (n + 1) os.length x0 x1 os := by kernel_rfl
theorem U115 {Q : SV → List SO → Prop} {x0 x1 : SV} {os : List SO} {nl : Nat} (hnl : os.length = nl) (h : Ev (fun n => B115 (callF prg n) (n + 1) nl x0 x1 os) Q) : Ev (fun n => callF prg n 115 [x0, x1] os) Q := by subst hnl; exact ev_fun (fun n => (E115 n _ _ _).trans (X115_s _ _ _ _ _ _)) h
theorem X116_s (K : Nat → List SV → List SO → Out) (N nl : Nat) (x0 x1 : SV) (os : List SO) : X116 K N nl x0 x1 os = B116 K N nl x0 x1 os := by kernel_rfl
theorem E116 (n : Nat) (x0 x1 : SV) (os : List SO) : callF prg (n + 1) 116 [x0, x1] os = X116 (callF prg n) (n + 1) os.length x0 x1 os := by kernel_rfl
theorem U116 {Q : SV → List SO → Prop} {x0 x1 : SV} {os : List SO} {nl : Nat} (hnl : os.length = nl) (h : Ev (fun n => B116 (callF prg n) (n + 1) nl x0 x1 os) Q) : Ev (fun n => callF prg n 116 [x0, x1] os) Q := by subst hnl; exact ev_fun (fun n => (E116 n _ _ _).trans (X116_s _ _ _ _ _ _)) h
theorem X117_s (K : Nat → List SV → List SO → Out) (N nl : Nat) (x0 x1 x2 : SV) (os : List SO) : X117 K N nl x0 x1 x2 os = B117 K N nl x0 x1 x2 os := by kernel_rfl
theorem E117 (n : Nat) (x0 x1 x2 : SV) (os : List SO) : callF prg (n + 1) 117 [x0, x1, x2] os = X117 (callF prg n) (n + 1) os.length x0 x1 x2 os := by kernel_rfl
theorem U117 {Q : SV → List SO → Prop} {x0 x1 x2 : SV} {os : List SO} {nl : Nat} (hnl : os.length = nl) (h : Ev (fun n => B117 (callF prg n) (n + 1) nl x0 x1 x2 os) Q) : Ev (fun n => callF prg n 117 [x0, x1, x2] os) Q := by subst hnl; exact ev_fun (fun n => (E117 n _ _ _ _).trans (X117_s _ _ _ _ _ _ _)) h
theorem X118_s (K : Nat → List SV → List SO → Out) (N nl : Nat) (x0 x1 : SV) (os : List SO) : X118 K N nl x0 x1 os = B118 K N nl x0 x1 os := by kernel_rfl
theorem E118 (n : Nat) (x0 x1 : SV) (os : List SO) : callF prg (n + 1) 118 [x0, x1] os = X118 (callF prg n) (n + 1) os.length x0 x1 os := by kernel_rfl
theorem U118 {Q : SV → List SO → Prop} {x0 x1 : SV} {os : List SO} {nl : Nat} (hnl : os.length = nl) (h : Ev (fun n => B118 (callF prg n) (n + 1) nl x0 x1 os) Q) : Ev (fun n => callF prg n 118 [x0, x1] os) Q := by subst hnl; exact ev_fun (fun n => (E118 n _ _ _).trans (X118_s _ _ _ _ _ _)) h
theorem X119_s (K : Nat → List SV → List SO → Out) (N nl : Nat) (x0 x1 : SV) (os : List SO) : X119 K N nl x0 x1 os = B119 K N nl x0 x1 os := by kernel_rfl
theorem E119 (n : Nat) (x0 x1 : SV) (os : List SO) : callF prg (n + 1) 119 [x0, x1] os = X119 (callF prg n) (n + 1) os.length x0 x1 os := by kernel_rfl
theorem U119 {Q : SV → List SO → Prop} {x0 x1 : SV} {os : List SO} {nl : Nat} (hnl : os.length = nl) (h : Ev (fun n => B119 (callF prg n) (n + 1) nl x0 x1 os) Q) : Ev (fun n => callF prg n 119 [x0, x1] os) Q := by subst hnl; exact ev_fun (fun n => (E119 n _ _ _).trans (X119_s _ _ _ _ _ _)) h
theorem X120_s (K : Nat → List SV → List SO → Out) (N nl : Nat) (x0 : SV) (os : List SO) : X120 K N nl x0 os = B120 K N nl x0 os := by kernel_rfl
theorem E120 (n : Nat) (x0 : SV) (os : List SO) : callF prg (n + 1) 120 [x0] os = X120 (callF prg n) (n + 1) os.length x0 os := by kernel_rfl
theorem U120 {Q : SV → List SO → Prop} {x0 : SV} {os : List SO} {nl : Nat} (hnl : os.length = nl) (h : Ev (fun n => B120 (callF prg n) (n + 1) nl x0 os) Q) : Ev (fun n => callF prg n 120 [x0] os) Q := by subst hnl; exact ev_fun (fun n => (E120 n _ _).trans (X120_s _ _ _ _ _)) h
end Go.Proofs.Ytgeolifkmiglgaa
