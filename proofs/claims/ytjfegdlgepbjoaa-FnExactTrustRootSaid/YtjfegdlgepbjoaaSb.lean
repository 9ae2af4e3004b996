/- The evaluator S: the functions of this seat, read chunk by chunk (2). -/
import Derived.Test.YtjfegdlgepbjoaaSb1
import Derived.Test.YtjfegdlgepbjoaaProg
import Derived.KernelRfl
namespace Go.Proofs.Ytjfegdlgepbjoaa
open Go
set_option linter.unusedVariables false
set_option maxRecDepth 100000
noncomputable def X91 (K : Nat → List SV → List SO → Out) (N nl : Nat) (x0 x1 : SV) (os : List SO) : Out := exec (cx K) N nl fi91 c91 [(0, x0), (1, x1)] os (kEnd tab nl rs91)
noncomputable def B91 (K : Nat → List SV → List SO → Out) (N nl : Nat) (x0 x1 : SV) (os : List SO) : Out :=
 L91_2 K N nl N x0 x1 (SV.v (.int .i64 0)) os
noncomputable def J92_9 (K : Nat → List SV → List SO → Out) (N nl : Nat) (x2 x3 : SV) (os : List SO) : Out := exec (cx K) N nl fi92 (subC c92 [1, 1, 1]) [(2, x2), (3, x3)] os (kEnd tab nl rs92)
noncomputable def JB92_9 (K : Nat → List SV → List SO → Out) (N nl : Nat) (x2 x3 : SV) (os : List SO) : Out :=
 bd (ret1 (loadS tab os 29 x3) os) fun v39 o39 =>
 bd (storeO tab o39 29 x2 (some v39)) fun v40 o40 =>
 retV tab nl o40 (resC1 (loadS tab o40 29 x2) (some []))
noncomputable def X92 (K : Nat → List SV → List SO → Out) (N nl : Nat) (x0 : SV) (os : List SO) : Out := exec (cx K) N nl fi92 c92 [(0, x0)] os (kEnd tab nl rs92)
noncomputable def B92 (K : Nat → List SV → List SO → Out) (N nl : Nat) (x0 : SV) (os : List SO) : Out :=
 bd (allocS tab os 29) fun v1 o1 =>
 bd (callS ⟨tab, ownF, K⟩ o1 67 [x0, (SV.v (.int .i64 6))]) fun v2 o2 =>
 bd (ret1 (binS tab .add 3 (SV.v (.int .i64 1)) v2) o2) fun v3 o3 =>
 bd (callS ⟨tab, ownF, K⟩ o3 67 [x0, (SV.v (.int .i64 12))]) fun v4 o4 =>
 bd (callS ⟨tab, ownF, K⟩ o4 68 [x0]) fun v5 o5 =>
 bd (callS ⟨tab, ownF, K⟩ o5 66 [v3, v4, v5]) fun v6 o6 =>
 bd (ret1 (extractS v6 0) o6) fun v7 o7 =>
 bd (ret1 (extractS v6 1) o7) fun v8 o8 =>
 bd (allocS tab o8 29) fun v9 o9 =>
 bd (storeO tab o9 29 v9 (some v7)) fun v10 o10 =>
 bd (callS ⟨tab, ownF, K⟩ o10 67 [x0, (SV.v (.int .i64 16))]) fun v11 o11 =>
 bd (ret1 (binS tab .eql 3 v11 (SV.v (.int .i64 0))) o11) fun v12 o12 =>
 condS v12 (bd (buildSliceS tab o12 23 3 [(0, (SV.v (.int .i64 0))), (1, (SV.v (.int .i64 30))), (2, (SV.v (.int .i64 31)))]) fun v13 o13 =>
 bd (callS ⟨tab, ownF, K⟩ o13 67 [x0, (SV.v (.int .i64 3))]) fun v14 o14 =>
 bd (ret1 (indexAddrS tab o14 23 v13 v14) o14) fun v15 o15 =>
 bd (ret1 (loadS tab o15 3 v15) o15) fun v16 o16 =>
 bd (ret1 (fieldAddrS tab 29 v9 0) o16) fun v17 o17 =>
 bd (storeO tab o17 3 v17 (some v16)) fun v18 o18 =>
 J92_9 K N nl v1 v9 o18)
 (bd (ret1 (binS tab .eql 3 v11 (SV.v (.int .i64 1))) o12) fun v19 o19 =>
 condS v19 (bd (buildSliceS tab o19 23 3 [(0, (SV.v (.int .i64 (-1)))), (1, (SV.v (.int .i64 60))), (2, (SV.v (.int .i64 61)))]) fun v20 o20 =>
 bd (callS ⟨tab, ownF, K⟩ o20 67 [x0, (SV.v (.int .i64 3))]) fun v21 o21 =>
 bd (ret1 (indexAddrS tab o21 23 v20 v21) o21) fun v22 o22 =>
 bd (ret1 (loadS tab o22 3 v22) o22) fun v23 o23 =>
 bd (ret1 (fieldAddrS tab 29 v9 1) o23) fun v24 o24 =>
 bd (storeO tab o24 3 v24 (some v23)) fun v25 o25 =>
 J92_9 K N nl v1 v9 o25)
 (bd (ret1 (binS tab .eql 3 v11 (SV.v (.int .i64 2))) o19) fun v26 o26 =>
 condS v26 (bd (ret1 (fieldAddrS tab 29 v9 2) o26) fun v27 o27 =>
 dchk (isBox v27) <|
 bd (ret1 (loadS tab o27 27 v27) o27) fun v28 o28 =>
 dchk (keepOk ⟨tab, ownF, K⟩ o28 (SV.fn 67 []) [x0, (SV.v (.int .i64 4))] [v27] false) <|
 bd (callS ⟨tab, ownF, K⟩ o28 67 [x0, (SV.v (.int .i64 4))]) fun v29 o29 =>
 bd (ret1 (binS tab .add 3 (SV.v (.int .i64 1)) v29) o29) fun v30 o30 =>
 dchk (keepOk ⟨tab, ownF, K⟩ o30 (SV.fn 67 []) [x0, (SV.v (.int .i64 4))] [v27] false) <|
 bd (callS ⟨tab, ownF, K⟩ o30 67 [x0, (SV.v (.int .i64 4))]) fun v31 o31 =>
 bd (ret1 (binS tab .add 3 (SV.v (.int .i64 1)) v31) o31) fun v32 o32 =>
 dchk (keepOk ⟨tab, ownF, K⟩ o32 (SV.fn 67 []) [x0, (SV.v (.int .i64 9973))] [v27] false) <|
 bd (callS ⟨tab, ownF, K⟩ o32 67 [x0, (SV.v (.int .i64 9973))]) fun v33 o33 =>
 bd (buildS tab o33 112 [(0, (some v30)), (1, (some v32)), (2, (some v33))]) fun v34 o34 =>
 bd (buildSliceS tab o34 27 1 [(0, v34)]) fun v35 o35 =>
 bd (appendS tab o35 27 27 v28 v35) fun v36 o36 =>
 bd (ret1 (fieldAddrS tab 29 v9 2) o36) fun v37 o37 =>
 bd (storeO tab o37 27 v37 (some v36)) fun v38 o38 =>
 J92_9 K N nl v1 v9 o38)
 (J92_9 K N nl v1 v9 o26)))
noncomputable def bk93_2 (K : Nat → List SV → List SO → Out) (N nl : Nat) (m2 : Nat) : Env → List SO → Out := fun env os => loopS nl (fi93.lp 2) (fun env os nx => exec (cx K) N nl fi93 (subC c93 [1, 0, 1, 0, 0]) env os (kLoop nx (kBlock 0 (kSeq (exec (cx K) N nl fi93 (subC c93 [1, 1])) (fi93.jn 6) (kEnd tab nl rs93))))) m2 (killS (fi93.lp 2).alive env) os
noncomputable def L93_2 (K : Nat → List SV → List SO → Out) (N nl : Nat) (m2 : Nat) (x0 x3 : SV) (os : List SO) : Out := loopS nl (fi93.lp 2) (fun env os nx => exec (cx K) N nl fi93 (subC c93 [1, 0, 1, 0, 0]) env os (kLoop nx (kBlock 0 (kSeq (exec (cx K) N nl fi93 (subC c93 [1, 1])) (fi93.jn 6) (kEnd tab nl rs93))))) m2 [(0, x0), (3, x3)] os
noncomputable def LB93_2 (K : Nat → List SV → List SO → Out) (N nl : Nat) (m2 : Nat) (x0 x3 : SV) (os : List SO) : Out :=
 bd (lenO tab 92 os x0) fun v1 o1 =>
 bd (ret1 (binS tab .lss 3 x3 v1) o1) fun v2 o2 =>
 condS v2 (bd (ret1 (indexAddrS tab o2 92 x0 x3) o2) fun v3 o3 =>
 bd (ret1 (loadS tab o3 120 v3) o3) fun v4 o4 =>
 bd (callS ⟨tab, ownF, K⟩ o4 109 [v4]) fun v5 o5 =>
 bd (ret1 (unS .not v5) o5) fun v6 o6 =>
 bd (gd v6 false (some (x3, o6)) o6) fun v7 o7 =>
 bd (gd v6 false (ret1 (binS tab .gtr 3 v7 (SV.v (.int .i64 0))) o7) o7) fun v8 o8 =>
 bd (gd v6 false (some (v8, o8)) o8) fun v9 o9 =>
 bd (gd v9 true (some (x0, o9)) o9) fun v10 o10 =>
 bd (gd v9 true (some (x3, o10)) o10) fun v11 o11 =>
 bd (gd v9 true (ret1 (binS tab .sub 3 v11 (SV.v (.int .i64 1))) o11) o11) fun v12 o12 =>
 bd (gd v9 true (ret1 (indexAddrS tab o12 92 v10 v12) o12) o12) fun v13 o13 =>
 bd (gd v9 true (ret1 (fieldAddrS tab 120 v13 0) o13) o13) fun v14 o14 =>
 bd (gd v9 true (ret1 (loadS tab o14 3 v14) o14) o14) fun v15 o15 =>
 bd (gd v9 true (some (x0, o15)) o15) fun v16 o16 =>
 bd (gd v9 true (some (x3, o16)) o16) fun v17 o17 =>
 bd (gd v9 true (ret1 (binS tab .sub 3 v17 (SV.v (.int .i64 1))) o17) o17) fun v18 o18 =>
 bd (gd v9 true (ret1 (indexAddrS tab o18 92 v16 v18) o18) o18) fun v19 o19 =>
 bd (gd v9 true (ret1 (fieldAddrS tab 120 v19 1) o19) o19) fun v20 o20 =>
 bd (gd v9 true (ret1 (loadS tab o20 3 v20) o20) o20) fun v21 o21 =>
 bd (gd v9 true (some (x0, o21)) o21) fun v22 o22 =>
 bd (gd v9 true (some (x3, o22)) o22) fun v23 o23 =>
 bd (gd v9 true (ret1 (indexAddrS tab o23 92 v22 v23) o23) o23) fun v24 o24 =>
 bd (gd v9 true (ret1 (fieldAddrS tab 120 v24 0) o24) o24) fun v25 o25 =>
 bd (gd v9 true (ret1 (loadS tab o25 3 v25) o25) o25) fun v26 o26 =>
 bd (gd v9 true (some (x0, o26)) o26) fun v27 o27 =>
 bd (gd v9 true (some (x3, o27)) o27) fun v28 o28 =>
 bd (gd v9 true (ret1 (indexAddrS tab o28 92 v27 v28) o28) o28) fun v29 o29 =>
 bd (gd v9 true (ret1 (fieldAddrS tab 120 v29 1) o29) o29) fun v30 o30 =>
 bd (gd v9 true (ret1 (loadS tab o30 3 v30) o30) o30) fun v31 o31 =>
 bd (gd v9 true (callS ⟨tab, ownF, K⟩ o31 102 [v15, v21, v26, v31]) o31) fun v32 o32 =>
 bd (gd v9 true (ret1 (unS .not v32) o32) o32) fun v33 o33 =>
 bd (gd v6 false (ret1 (pickS v9 v33 (SV.v (.bool false))) o33) o33) fun v34 o34 =>
 bd (ret1 (pickS v6 (SV.v (.bool true)) v34) o34) fun v35 o35 =>
 condS v35 (retV tab nl o35 (resC1 (some (SV.v (.bool false))) (some [])))
 (bd (ret1 (binS tab .add 3 x3 (SV.v (.int .i64 1))) o35) fun v36 o36 =>
 L93_2 K N nl m2 x0 v36 o36))
 (retV tab nl o2 (resC1 (some (SV.v (.bool true))) (some [])))
noncomputable def X93 (K : Nat → List SV → List SO → Out) (N nl : Nat) (x0 : SV) (os : List SO) : Out := exec (cx K) N nl fi93 c93 [(0, x0)] os (kEnd tab nl rs93)
noncomputable def B93 (K : Nat → List SV → List SO → Out) (N nl : Nat) (x0 : SV) (os : List SO) : Out :=
 L93_2 K N nl N x0 (SV.v (.int .i64 0)) os
noncomputable def bk94_3 (K : Nat → List SV → List SO → Out) (N nl : Nat) (m3 : Nat) : Env → List SO → Out := fun env os => loopS nl (fi94.lp 3) (fun env os nx => exec (cx K) N nl fi94 (subC c94 [1, 1, 0, 1, 0, 0]) env os (kLoop nx (kBlock 0 (kSeq (exec (cx K) N nl fi94 (subC c94 [1, 1, 1])) (fi94.jn 6) (kEnd tab nl rs94))))) m3 (killS (fi94.lp 3).alive env) os
noncomputable def L94_3 (K : Nat → List SV → List SO → Out) (N nl : Nat) (m3 : Nat) (x0 x3 x4 : SV) (os : List SO) : Out := loopS nl (fi94.lp 3) (fun env os nx => exec (cx K) N nl fi94 (subC c94 [1, 1, 0, 1, 0, 0]) env os (kLoop nx (kBlock 0 (kSeq (exec (cx K) N nl fi94 (subC c94 [1, 1, 1])) (fi94.jn 6) (kEnd tab nl rs94))))) m3 [(0, x0), (3, x3), (4, x4)] os
noncomputable def LB94_3 (K : Nat → List SV → List SO → Out) (N nl : Nat) (m3 : Nat) (x0 x3 x4 : SV) (os : List SO) : Out :=
 bd (lenO tab 9 os x0) fun v1 o1 =>
 bd (ret1 (binS tab .lss 3 x4 v1) o1) fun v2 o2 =>
 condS v2 (bd (ret1 (binS tab .mul 3 (SV.v (.int .i64 31)) x3) o2) fun v3 o3 =>
 bd (ret1 (indexS tab 9 x0 x4) o3) fun v4 o4 =>
 bd (convS tab o4 5 3 v4) fun v5 o5 =>
 bd (ret1 (binS tab .add 3 v3 v5) o5) fun v6 o6 =>
 bd (ret1 (binS tab .add 3 v6 (SV.v (.int .i64 1))) o6) fun v7 o7 =>
 bd (ret1 (binS tab .rem 3 v7 (SV.v (.int .i64 9973))) o7) fun v8 o8 =>
 bd (ret1 (binS tab .add 3 x4 (SV.v (.int .i64 1))) o8) fun v9 o9 =>
 L94_3 K N nl m3 x0 v8 v9 o9)
 (retV tab nl o2 (resC1 (some x3) (some [])))
noncomputable def X94 (K : Nat → List SV → List SO → Out) (N nl : Nat) (x0 : SV) (os : List SO) : Out := exec (cx K) N nl fi94 c94 [(0, x0)] os (kEnd tab nl rs94)
noncomputable def B94 (K : Nat → List SV → List SO → Out) (N nl : Nat) (x0 : SV) (os : List SO) : Out :=
 L94_3 K N nl N x0 (SV.v (.int .i64 7)) (SV.v (.int .i64 0)) os
noncomputable def bk95_5 (K : Nat → List SV → List SO → Out) (N nl : Nat) (m5 : Nat) : Env → List SO → Out := fun env os => loopS nl (fi95.lp 5) (fun env os nx => exec (cx K) N nl fi95 (subC c95 [1, 1, 1, 0, 1, 0, 0]) env os (kLoop nx (kBlock 0 (kSeq (exec (cx K) N nl fi95 (subC c95 [1, 1, 1, 1])) (fi95.jn 8) (kEnd tab nl rs95))))) m5 (killS (fi95.lp 5).alive env) os
noncomputable def bk95_9 (K : Nat → List SV → List SO → Out) (N nl : Nat) (m9 : Nat) : Env → List SO → Out := fun env os => loopS nl (fi95.lp 9) (fun env os nx => exec (cx K) N nl fi95 (subC c95 [1, 1, 1, 1, 0, 1, 0, 0]) env os (kLoop nx (kBlock 2 (kSeq (exec (cx K) N nl fi95 (subC c95 [1, 1, 1, 1, 1])) (fi95.jn 12) (kEnd tab nl rs95))))) m9 (killS (fi95.lp 9).alive env) os
noncomputable def L95_5 (K : Nat → List SV → List SO → Out) (N nl : Nat) (m5 : Nat) (x1 x3 x4 : SV) (os : List SO) : Out := loopS nl (fi95.lp 5) (fun env os nx => exec (cx K) N nl fi95 (subC c95 [1, 1, 1, 0, 1, 0, 0]) env os (kLoop nx (kBlock 0 (kSeq (exec (cx K) N nl fi95 (subC c95 [1, 1, 1, 1])) (fi95.jn 8) (kEnd tab nl rs95))))) m5 [(1, x1), (3, x3), (4, x4)] os
noncomputable def J95_6 (K : Nat → List SV → List SO → Out) (N nl : Nat) (m5 : Nat) (x1 x3 x4 : SV) (os : List SO) : Out := exec (cx K) N nl fi95 (subC c95 [1, 1, 1, 0, 1, 0, 0, 1, 1]) [(1, x1), (3, x3), (4, x4)] os (kLoop (bk95_5 K N nl m5) (kBlock 0 (kSeq (exec (cx K) N nl fi95 (subC c95 [1, 1, 1, 1])) (fi95.jn 8) (kEnd tab nl rs95))))
noncomputable def L95_9 (K : Nat → List SV → List SO → Out) (N nl : Nat) (m9 : Nat) (x1 x3 x5 : SV) (os : List SO) : Out := loopS nl (fi95.lp 9) (fun env os nx => exec (cx K) N nl fi95 (subC c95 [1, 1, 1, 1, 0, 1, 0, 0]) env os (kLoop nx (kBlock 2 (kSeq (exec (cx K) N nl fi95 (subC c95 [1, 1, 1, 1, 1])) (fi95.jn 12) (kEnd tab nl rs95))))) m9 [(1, x1), (3, x3), (5, x5)] os
noncomputable def LB95_5 (K : Nat → List SV → List SO → Out) (N nl : Nat) (m5 : Nat) (x1 x3 x4 : SV) (os : List SO) : Out :=
 bd (ret1 (fieldAddrS tab 120 x1 2) os) fun v10 o10 =>
 bd (ret1 (loadS tab o10 117 v10) o10) fun v11 o11 =>
 bd (lenO tab 117 o11 v11) fun v12 o12 =>
 bd (ret1 (binS tab .lss 3 x4 v12) o12) fun v13 o13 =>
 condS v13 (both (bd (ret1 (binS tab .add 9 x3 (SV.v (.string ⟨#[32]⟩))) o13) fun v14 o14 =>
 bd (ret1 (fieldAddrS tab 120 x1 2) o14) fun v15 o15 =>
 bd (ret1 (loadS tab o15 117 v15) o15) fun v16 o16 =>
 bd (ret1 (indexAddrS tab o16 117 v16 x4) o16) fun v17 o17 =>
 bd (ret1 (fieldAddrS tab 137 v17 0) o17) fun v18 o18 =>
 bd (ret1 (loadS tab o18 3 v18) o18) fun v19 o19 =>
 dchk (keepOk ⟨tab, ownF, K⟩ o19 (SV.fn 111 []) [v19] [] true) <|
 bd (callS ⟨tab, ownF, K⟩ o19 111 [v19]) fun v20 o20 =>
 bd (ret1 (binS tab .add 9 v14 v20) o20) fun v21 o21 =>
 bd (ret1 (binS tab .add 9 v21 (SV.v (.string ⟨#[58]⟩))) o21) fun v22 o22 =>
 bd (ret1 (fieldAddrS tab 120 x1 2) o22) fun v23 o23 =>
 dchk (isBox v23) <|
 bd (ret1 (loadS tab o23 117 v23) o23) fun v24 o24 =>
 bd (ret1 (indexAddrS tab o24 117 v24 x4) o24) fun v25 o25 =>
 bd (ret1 (fieldAddrS tab 137 v25 1) o25) fun v26 o26 =>
 bd (ret1 (loadS tab o26 3 v26) o26) fun v27 o27 =>
 bd (callS ⟨tab, ownF, K⟩ o27 111 [v27]) fun v28 o28 =>
 bd (ret1 (binS tab .add 9 v22 v28) o28) fun v29 o29 =>
 J95_6 K N nl m5 x1 v29 x4 o29)
 (bd (ret1 (binS tab .add 9 x3 (SV.v (.string ⟨#[32]⟩))) o13) fun v30 o30 =>
 bd (ret1 (fieldAddrS tab 120 x1 2) o30) fun v31 o31 =>
 bd (ret1 (loadS tab o31 117 v31) o31) fun v32 o32 =>
 bd (ret1 (indexAddrS tab o32 117 v32 x4) o32) fun v33 o33 =>
 bd (ret1 (fieldAddrS tab 137 v33 0) o33) fun v34 o34 =>
 bd (ret1 (loadS tab o34 3 v34) o34) fun v35 o35 =>
 bd (ret1 (fieldAddrS tab 120 x1 2) o35) fun v36 o36 =>
 bd (ret1 (loadS tab o36 117 v36) o36) fun v37 o37 =>
 bd (ret1 (indexAddrS tab o37 117 v37 x4) o37) fun v38 o38 =>
 dchk (keepOk ⟨tab, ownF, K⟩ o38 (SV.fn 111 []) [v35] [] true) <|
 bd (callS ⟨tab, ownF, K⟩ o38 111 [v35]) fun v39 o39 =>
 bd (ret1 (binS tab .add 9 v30 v39) o39) fun v40 o40 =>
 bd (ret1 (binS tab .add 9 v40 (SV.v (.string ⟨#[58]⟩))) o40) fun v41 o41 =>
 bd (ret1 (fieldAddrS tab 137 v38 1) o41) fun v42 o42 =>
 dchk (isBox v42) <|
 bd (ret1 (loadS tab o42 3 v42) o42) fun v43 o43 =>
 bd (callS ⟨tab, ownF, K⟩ o43 111 [v43]) fun v44 o44 =>
 bd (ret1 (binS tab .add 9 v41 v44) o44) fun v45 o45 =>
 J95_6 K N nl m5 x1 v45 x4 o45))
 (L95_9 K N nl N x1 x3 (SV.v (.int .i64 0)) o13)
noncomputable def JB95_6 (K : Nat → List SV → List SO → Out) (N nl : Nat) (m5 : Nat) (x1 x3 x4 : SV) (os : List SO) : Out :=
 bd (ret1 (binS tab .add 3 x4 (SV.v (.int .i64 1))) os) fun v46 o46 =>
 L95_5 K N nl m5 x1 x3 v46 o46
noncomputable def LB95_9 (K : Nat → List SV → List SO → Out) (N nl : Nat) (m9 : Nat) (x1 x3 x5 : SV) (os : List SO) : Out :=
 bd (ret1 (fieldAddrS tab 120 x1 3) os) fun v47 o47 =>
 bd (ret1 (loadS tab o47 118 v47) o47) fun v48 o48 =>
 bd (lenO tab 118 o48 v48) fun v49 o49 =>
 bd (ret1 (binS tab .lss 3 x5 v49) o49) fun v50 o50 =>
 condS v50 (bd (ret1 (binS tab .add 9 x3 (SV.v (.string ⟨#[32]⟩))) o50) fun v51 o51 =>
 bd (ret1 (fieldAddrS tab 120 x1 3) o51) fun v52 o52 =>
 bd (ret1 (loadS tab o52 118 v52) o52) fun v53 o53 =>
 bd (ret1 (indexAddrS tab o53 118 v53 x5) o53) fun v54 o54 =>
 bd (ret1 (fieldAddrS tab 139 v54 0) o54) fun v55 o55 =>
 bd (ret1 (loadS tab o55 3 v55) o55) fun v56 o56 =>
 bd (ret1 (fieldAddrS tab 120 x1 3) o56) fun v57 o57 =>
 bd (ret1 (loadS tab o57 118 v57) o57) fun v58 o58 =>
 bd (ret1 (indexAddrS tab o58 118 v58 x5) o58) fun v59 o59 =>
 bd (ret1 (fieldAddrS tab 139 v59 1) o59) fun v60 o60 =>
 bd (ret1 (loadS tab o60 3 v60) o60) fun v61 o61 =>
 bd (callS ⟨tab, ownF, K⟩ o61 110 [v56, v61]) fun v62 o62 =>
 bd (ret1 (binS tab .add 9 v51 v62) o62) fun v63 o63 =>
 bd (ret1 (binS tab .add 3 x5 (SV.v (.int .i64 1))) o63) fun v64 o64 =>
 L95_9 K N nl m9 x1 v63 v64 o64)
 (retV tab nl o50 (resC1 (some x3) (some [])))
noncomputable def X95 (K : Nat → List SV → List SO → Out) (N nl : Nat) (x0 : SV) (os : List SO) : Out := exec (cx K) N nl fi95 c95 [(0, x0)] os (kEnd tab nl rs95)
noncomputable def B95 (K : Nat → List SV → List SO → Out) (N nl : Nat) (x0 : SV) (os : List SO) : Out :=
 bd (boxS tab os 120 (some x0)) fun v1 o1 =>
 bd (ret1 (loadS tab o1 120 v1) o1) fun v2 o2 =>
 bd (callS ⟨tab, ownF, K⟩ o2 109 [v2]) fun v3 o3 =>
 bd (ret1 (unS .not v3) o3) fun v4 o4 =>
 condS v4 (retV tab nl o4 (resC1 (some (SV.v (.string ⟨#[]⟩))) (some [])))
 (bd (ret1 (fieldAddrS tab 120 v1 0) o4) fun v5 o5 =>
 bd (ret1 (loadS tab o5 3 v5) o5) fun v6 o6 =>
 bd (ret1 (fieldAddrS tab 120 v1 1) o6) fun v7 o7 =>
 bd (ret1 (loadS tab o7 3 v7) o7) fun v8 o8 =>
 bd (callS ⟨tab, ownF, K⟩ o8 110 [v6, v8]) fun v9 o9 =>
 L95_5 K N nl N v1 v9 (SV.v (.int .i64 0)) o9)
noncomputable def bk96_4 (K : Nat → List SV → List SO → Out) (N nl : Nat) (m4 : Nat) : Env → List SO → Out := fun env os => loopS nl (fi96.lp 4) (fun env os nx => exec (cx K) N nl fi96 (subC c96 [1, 1, 1, 0, 1, 0, 0]) env os (kLoop nx (kBlock 0 (kSeq (exec (cx K) N nl fi96 (subC c96 [1, 1, 1, 1])) (fi96.jn 8) (kEnd tab nl rs96))))) m4 (killS (fi96.lp 4).alive env) os
noncomputable def bk96_9 (K : Nat → List SV → List SO → Out) (N nl : Nat) (m9 : Nat) : Env → List SO → Out := fun env os => loopS nl (fi96.lp 9) (fun env os nx => exec (cx K) N nl fi96 (subC c96 [1, 1, 1, 1, 0, 1, 0, 0]) env os (kLoop nx (kBlock 2 (kSeq (exec (cx K) N nl fi96 (subC c96 [1, 1, 1, 1, 1])) (fi96.jn 13) (kEnd tab nl rs96))))) m9 (killS (fi96.lp 9).alive env) os
noncomputable def L96_4 (K : Nat → List SV → List SO → Out) (N nl : Nat) (m4 : Nat) (x0 x1 x6 x7 x8 x9 : SV) (os : List SO) : Out := loopS nl (fi96.lp 4) (fun env os nx => exec (cx K) N nl fi96 (subC c96 [1, 1, 1, 0, 1, 0, 0]) env os (kLoop nx (kBlock 0 (kSeq (exec (cx K) N nl fi96 (subC c96 [1, 1, 1, 1])) (fi96.jn 8) (kEnd tab nl rs96))))) m4 [(0, x0), (1, x1), (6, x6), (7, x7), (8, x8), (9, x9)] os
noncomputable def G96_4 (K : Nat → List SV → List SO → Out) (N nl : Nat) (m4 : Nat) (xs : List SV) (os : List SO) : Out := (fun env os nx => exec (cx K) N nl fi96 (subC c96 [1, 1, 1, 0, 1, 0, 0]) env os (kLoop nx (kBlock 0 (kSeq (exec (cx K) N nl fi96 (subC c96 [1, 1, 1, 1])) (fi96.jn 8) (kEnd tab nl rs96))))) (zipE [0, 1, 6, 7, 8, 9] xs) os (bk96_4 K N nl m4)
noncomputable def L96_9 (K : Nat → List SV → List SO → Out) (N nl : Nat) (m9 : Nat) (x0 x1 x6 x7 x10 : SV) (os : List SO) : Out := loopS nl (fi96.lp 9) (fun env os nx => exec (cx K) N nl fi96 (subC c96 [1, 1, 1, 1, 0, 1, 0, 0]) env os (kLoop nx (kBlock 2 (kSeq (exec (cx K) N nl fi96 (subC c96 [1, 1, 1, 1, 1])) (fi96.jn 13) (kEnd tab nl rs96))))) m9 [(0, x0), (1, x1), (6, x6), (7, x7), (10, x10)] os
noncomputable def G96_9 (K : Nat → List SV → List SO → Out) (N nl : Nat) (m9 : Nat) (xs : List SV) (os : List SO) : Out := (fun env os nx => exec (cx K) N nl fi96 (subC c96 [1, 1, 1, 1, 0, 1, 0, 0]) env os (kLoop nx (kBlock 2 (kSeq (exec (cx K) N nl fi96 (subC c96 [1, 1, 1, 1, 1])) (fi96.jn 13) (kEnd tab nl rs96))))) (zipE [0, 1, 6, 7, 10] xs) os (bk96_9 K N nl m9)
noncomputable def J96_10 (K : Nat → List SV → List SO → Out) (N nl : Nat) (m9 : Nat) (x0 x1 x6 x7 x10 : SV) (os : List SO) : Out := exec (cx K) N nl fi96 (subC c96 [1, 1, 1, 1, 0, 1, 0, 0, 1, 1]) [(0, x0), (1, x1), (6, x6), (7, x7), (10, x10)] os (kLoop (bk96_9 K N nl m9) (kBlock 2 (kSeq (exec (cx K) N nl fi96 (subC c96 [1, 1, 1, 1, 1])) (fi96.jn 13) (kEnd tab nl rs96))))
noncomputable def GB96_4 (K : Nat → List SV → List SO → Out) (N nl : Nat) (m4 : Nat) (x0 x1 x6 x7 x8 x9 : SV) (os : List SO) : Out :=
 bd (ret1 (binS tab .gtr 3 x9 (SV.v (.int .i64 0))) os) fun v9 o9 =>
 bd (gd v9 true (some (x8, o9)) o9) fun v10 o10 =>
 bd (gd v9 true (ret1 (binS tab .lss 3 v10 (SV.v (.int .i64 6))) o10) o10) fun v11 o11 =>
 bd (ret1 (pickS v9 v11 (SV.v (.bool false))) o11) fun v12 o12 =>
 condS v12 (bd (ret1 (fieldAddrS tab 120 x7 2) o12) fun v13 o13 =>
 dchk (isBox v13) <|
 bd (ret1 (loadS tab o13 117 v13) o13) fun v14 o14 =>
 dchk (keepOk ⟨tab, ownF, K⟩ o14 (SV.fn 67 []) [x0, (SV.v (.int .i64 10))] [v13] false) <|
 bd (callS ⟨tab, ownF, K⟩ o14 67 [x0, (SV.v (.int .i64 10))]) fun v15 o15 =>
 bd (buildS tab o15 137 [(0, (some x8)), (1, (some v15))]) fun v16 o16 =>
 bd (buildSliceS tab o16 117 1 [(0, v16)]) fun v17 o17 =>
 bd (appendS tab o17 117 117 v14 v17) fun v18 o18 =>
 bd (ret1 (fieldAddrS tab 120 x7 2) o18) fun v19 o19 =>
 bd (storeO tab o19 117 v19 (some v18)) fun v20 o20 =>
 bd (ret1 (binS tab .add 3 x8 (SV.v (.int .i64 1))) o20) fun v21 o21 =>
 bd (callS ⟨tab, ownF, K⟩ o21 67 [x0, (SV.v (.int .i64 3))]) fun v22 o22 =>
 bd (ret1 (binS tab .add 3 v21 v22) o22) fun v23 o23 =>
 bd (ret1 (binS tab .sub 3 x9 (SV.v (.int .i64 1))) o23) fun v24 o24 =>
 L96_4 K N nl m4 x0 x1 x6 x7 v23 v24 o24)
 (L96_9 K N nl N x0 x1 x6 x7 (SV.v (.int .i64 1)) o12)
noncomputable def GB96_9 (K : Nat → List SV → List SO → Out) (N nl : Nat) (m9 : Nat) (x0 x1 x6 x7 x10 : SV) (os : List SO) : Out :=
 bd (ret1 (binS tab .leq 3 x10 (SV.v (.int .i64 4))) os) fun v25 o25 =>
 bd (gd v25 true (ret1 (fieldAddrS tab 120 x7 3) o25) o25) fun v26 o26 =>
 bd (gd v25 true (ret1 (loadS tab o26 118 v26) o26) o26) fun v27 o27 =>
 bd (gd v25 true (lenO tab 118 o27 v27) o27) fun v28 o28 =>
 bd (gd v25 true (ret1 (binS tab .lss 3 v28 (SV.v (.int .i64 2))) o28) o28) fun v29 o29 =>
 bd (ret1 (pickS v25 v29 (SV.v (.bool false))) o29) fun v30 o30 =>
 condS v30 (bd (ret1 (binS tab .neq 3 x10 x1) o30) fun v31 o31 =>
 bd (gd v31 true (some (x0, o31)) o31) fun v32 o32 =>
 bd (gd v31 true (callS ⟨tab, ownF, K⟩ o32 67 [v32, (SV.v (.int .i64 6))]) o32) fun v33 o33 =>
 bd (gd v31 true (ret1 (binS tab .eql 3 v33 (SV.v (.int .i64 0))) o33) o33) fun v34 o34 =>
 bd (ret1 (pickS v31 v34 (SV.v (.bool false))) o34) fun v35 o35 =>
 condS v35 (bd (ret1 (fieldAddrS tab 120 x7 3) o35) fun v36 o36 =>
 dchk (isBox v36) <|
 bd (ret1 (loadS tab o36 118 v36) o36) fun v37 o37 =>
 dchk (keepOk ⟨tab, ownF, K⟩ o37 (SV.fn 67 []) [x0, (SV.v (.int .i64 2))] [v36] false) <|
 bd (callS ⟨tab, ownF, K⟩ o37 67 [x0, (SV.v (.int .i64 2))]) fun v38 o38 =>
 bd (ret1 (binS tab .add 3 (SV.v (.int .i64 1)) v38) o38) fun v39 o39 =>
 bd (buildS tab o39 139 [(0, (some x10)), (1, (some v39))]) fun v40 o40 =>
 bd (buildSliceS tab o40 118 1 [(0, v40)]) fun v41 o41 =>
 bd (appendS tab o41 118 118 v37 v41) fun v42 o42 =>
 bd (ret1 (fieldAddrS tab 120 x7 3) o42) fun v43 o43 =>
 bd (storeO tab o43 118 v43 (some v42)) fun v44 o44 =>
 J96_10 K N nl m9 x0 x1 x6 x7 x10 o44)
 (J96_10 K N nl m9 x0 x1 x6 x7 x10 o35))
 (bd (ret1 (loadS tab o30 120 x7) o30) fun v45 o45 =>
 bd (storeO tab o45 120 x6 (some v45)) fun v46 o46 =>
 retV tab nl o46 (resC1 (loadS tab o46 120 x6) (some [])))
noncomputable def JB96_10 (K : Nat → List SV → List SO → Out) (N nl : Nat) (m9 : Nat) (x0 x1 x6 x7 x10 : SV) (os : List SO) : Out :=
 bd (ret1 (binS tab .add 3 x10 (SV.v (.int .i64 1))) os) fun v47 o47 =>
 L96_9 K N nl m9 x0 x1 x6 x7 v47 o47
noncomputable def X96 (K : Nat → List SV → List SO → Out) (N nl : Nat) (x0 x1 x2 : SV) (os : List SO) : Out := exec (cx K) N nl fi96 c96 [(0, x0), (1, x1), (2, x2)] os (kEnd tab nl rs96)
noncomputable def B96 (K : Nat → List SV → List SO → Out) (N nl : Nat) (x0 x1 x2 : SV) (os : List SO) : Out :=
 bd (allocS tab os 120) fun v1 o1 =>
 bd (buildSliceS tab o1 117 0 []) fun v2 o2 =>
 bd (buildSliceS tab o2 118 0 []) fun v3 o3 =>
 bd (buildS tab o3 120 [(0, (some x1)), (1, (some x2)), (2, (some v2)), (3, (some v3))]) fun v4 o4 =>
 bd (allocS tab o4 120) fun v5 o5 =>
 bd (storeO tab o5 120 v5 (some v4)) fun v6 o6 =>
 bd (callS ⟨tab, ownF, K⟩ o6 67 [x0, (SV.v (.int .i64 4))]) fun v7 o7 =>
 bd (callS ⟨tab, ownF, K⟩ o7 67 [x0, (SV.v (.int .i64 3))]) fun v8 o8 =>
 L96_4 K N nl N x0 x1 v1 v5 v7 v8 o8
noncomputable def bk97_2 (K : Nat → List SV → List SO → Out) (N nl : Nat) (m2 : Nat) : Env → List SO → Out := fun env os => loopS nl (fi97.lp 2) (fun env os nx => exec (cx K) N nl fi97 (subC c97 [1, 0, 1, 0, 0]) env os (kLoop nx (kBlock 0 (kSeq (exec (cx K) N nl fi97 (subC c97 [1, 1])) (fi97.jn 6) (kEnd tab nl rs97))))) m2 (killS (fi97.lp 2).alive env) os
noncomputable def L97_2 (K : Nat → List SV → List SO → Out) (N nl : Nat) (m2 : Nat) (x0 x1 x2 x7 : SV) (os : List SO) : Out := loopS nl (fi97.lp 2) (fun env os nx => exec (cx K) N nl fi97 (subC c97 [1, 0, 1, 0, 0]) env os (kLoop nx (kBlock 0 (kSeq (exec (cx K) N nl fi97 (subC c97 [1, 1])) (fi97.jn 6) (kEnd tab nl rs97))))) m2 [(0, x0), (1, x1), (2, x2), (7, x7)] os
noncomputable def LB97_2 (K : Nat → List SV → List SO → Out) (N nl : Nat) (m2 : Nat) (x0 x1 x2 x7 : SV) (os : List SO) : Out :=
 bd (lenO tab 92 os x0) fun v1 o1 =>
 bd (ret1 (binS tab .lss 3 x7 v1) o1) fun v2 o2 =>
 condS v2 (bd (ret1 (indexAddrS tab o2 92 x0 x7) o2) fun v3 o3 =>
 bd (ret1 (fieldAddrS tab 120 v3 0) o3) fun v4 o4 =>
 bd (ret1 (loadS tab o4 3 v4) o4) fun v5 o5 =>
 bd (ret1 (binS tab .eql 3 v5 x1) o5) fun v6 o6 =>
 bd (gd v6 true (some (x0, o6)) o6) fun v7 o7 =>
 bd (gd v6 true (some (x7, o7)) o7) fun v8 o8 =>
 bd (gd v6 true (ret1 (indexAddrS tab o8 92 v7 v8) o8) o8) fun v9 o9 =>
 bd (gd v6 true (ret1 (fieldAddrS tab 120 v9 1) o9) o9) fun v10 o10 =>
 bd (gd v6 true (ret1 (loadS tab o10 3 v10) o10) o10) fun v11 o11 =>
 bd (gd v6 true (some (x2, o11)) o11) fun v12 o12 =>
 bd (gd v6 true (ret1 (binS tab .eql 3 v11 v12) o12) o12) fun v13 o13 =>
 bd (ret1 (pickS v6 v13 (SV.v (.bool false))) o13) fun v14 o14 =>
 condS v14 (retV tab nl o14 (resC1 (some x7) (some [])))
 (bd (ret1 (binS tab .add 3 x7 (SV.v (.int .i64 1))) o14) fun v15 o15 =>
 L97_2 K N nl m2 x0 x1 x2 v15 o15))
 (retV tab nl o2 (resC1 (some (SV.v (.int .i64 (-1)))) (some [])))
noncomputable def X97 (K : Nat → List SV → List SO → Out) (N nl : Nat) (x0 x1 x2 : SV) (os : List SO) : Out := exec (cx K) N nl fi97 c97 [(0, x0), (1, x1), (2, x2)] os (kEnd tab nl rs97)
noncomputable def B97 (K : Nat → List SV → List SO → Out) (N nl : Nat) (x0 x1 x2 : SV) (os : List SO) : Out :=
 L97_2 K N nl N x0 x1 x2 (SV.v (.int .i64 0)) os
noncomputable def bk98_3 (K : Nat → List SV → List SO → Out) (N nl : Nat) (m3 : Nat) : Env → List SO → Out := fun env os => loopS nl (fi98.lp 3) (fun env os nx => exec (cx K) N nl fi98 (subC c98 [1, 1, 0, 1, 0, 0]) env os (kLoop nx (kBlock 0 (kSeq (exec (cx K) N nl fi98 (subC c98 [1, 1, 1])) (fi98.jn 7) (kEnd tab nl rs98))))) m3 (killS (fi98.lp 3).alive env) os
noncomputable def bk98_9 (K : Nat → List SV → List SO → Out) (N nl : Nat) (m9 : Nat) : Env → List SO → Out := fun env os => loopS nl (fi98.lp 9) (fun env os nx => exec (cx K) N nl fi98 (subC c98 [1, 1, 1, 1, 0, 1, 0, 0]) env os (kLoop nx (kBlock 2 (kSeq (exec (cx K) N nl fi98 (subC c98 [1, 1, 1, 1, 1])) (fi98.jn 13) (kEnd tab nl rs98))))) m9 (killS (fi98.lp 9).alive env) os
noncomputable def L98_3 (K : Nat → List SV → List SO → Out) (N nl : Nat) (m3 : Nat) (x0 x3 x5 x6 : SV) (os : List SO) : Out := loopS nl (fi98.lp 3) (fun env os nx => exec (cx K) N nl fi98 (subC c98 [1, 1, 0, 1, 0, 0]) env os (kLoop nx (kBlock 0 (kSeq (exec (cx K) N nl fi98 (subC c98 [1, 1, 1])) (fi98.jn 7) (kEnd tab nl rs98))))) m3 [(0, x0), (3, x3), (5, x5), (6, x6)] os
noncomputable def G98_3 (K : Nat → List SV → List SO → Out) (N nl : Nat) (m3 : Nat) (xs : List SV) (os : List SO) : Out := (fun env os nx => exec (cx K) N nl fi98 (subC c98 [1, 1, 0, 1, 0, 0]) env os (kLoop nx (kBlock 0 (kSeq (exec (cx K) N nl fi98 (subC c98 [1, 1, 1])) (fi98.jn 7) (kEnd tab nl rs98))))) (zipE [0, 3, 5, 6] xs) os (bk98_3 K N nl m3)
noncomputable def J98_4 (K : Nat → List SV → List SO → Out) (N nl : Nat) (m3 : Nat) (x0 x3 x5 x6 : SV) (os : List SO) : Out := exec (cx K) N nl fi98 (subC c98 [1, 1, 0, 1, 0, 0, 1, 1]) [(0, x0), (3, x3), (5, x5), (6, x6)] os (kLoop (bk98_3 K N nl m3) (kBlock 0 (kSeq (exec (cx K) N nl fi98 (subC c98 [1, 1, 1])) (fi98.jn 7) (kEnd tab nl rs98))))
noncomputable def L98_9 (K : Nat → List SV → List SO → Out) (N nl : Nat) (m9 : Nat) (x0 x3 x5 x7 : SV) (os : List SO) : Out := loopS nl (fi98.lp 9) (fun env os nx => exec (cx K) N nl fi98 (subC c98 [1, 1, 1, 1, 0, 1, 0, 0]) env os (kLoop nx (kBlock 2 (kSeq (exec (cx K) N nl fi98 (subC c98 [1, 1, 1, 1, 1])) (fi98.jn 13) (kEnd tab nl rs98))))) m9 [(0, x0), (3, x3), (5, x5), (7, x7)] os
noncomputable def G98_9 (K : Nat → List SV → List SO → Out) (N nl : Nat) (m9 : Nat) (xs : List SV) (os : List SO) : Out := (fun env os nx => exec (cx K) N nl fi98 (subC c98 [1, 1, 1, 1, 0, 1, 0, 0]) env os (kLoop nx (kBlock 2 (kSeq (exec (cx K) N nl fi98 (subC c98 [1, 1, 1, 1, 1])) (fi98.jn 13) (kEnd tab nl rs98))))) (zipE [0, 3, 5, 7] xs) os (bk98_9 K N nl m9)
noncomputable def J98_10 (K : Nat → List SV → List SO → Out) (N nl : Nat) (m9 : Nat) (x0 x3 x5 x7 : SV) (os : List SO) : Out := exec (cx K) N nl fi98 (subC c98 [1, 1, 1, 1, 0, 1, 0, 0, 1, 1]) [(0, x0), (3, x3), (5, x5), (7, x7)] os (kLoop (bk98_9 K N nl m9) (kBlock 2 (kSeq (exec (cx K) N nl fi98 (subC c98 [1, 1, 1, 1, 1])) (fi98.jn 13) (kEnd tab nl rs98))))
noncomputable def GB98_3 (K : Nat → List SV → List SO → Out) (N nl : Nat) (m3 : Nat) (x0 x3 x5 x6 : SV) (os : List SO) : Out :=
 bd (lenO tab 92 os x0) fun v4 o4 =>
 bd (ret1 (binS tab .lss 3 x6 v4) o4) fun v5 o5 =>
 condS v5 (bd (ret1 (indexAddrS tab o5 92 x0 x6) o5) fun v6 o6 =>
 bd (ret1 (fieldAddrS tab 120 v6 0) o6) fun v7 o7 =>
 bd (ret1 (loadS tab o7 3 v7) o7) fun v8 o8 =>
 bd (ret1 (indexAddrS tab o8 92 x0 x6) o8) fun v9 o9 =>
 bd (ret1 (fieldAddrS tab 120 v9 1) o9) fun v10 o10 =>
 bd (ret1 (loadS tab o10 3 v10) o10) fun v11 o11 =>
 bd (ret1 (fieldAddrS tab 120 x3 0) o11) fun v12 o12 =>
 bd (ret1 (loadS tab o12 3 v12) o12) fun v13 o13 =>
 bd (ret1 (fieldAddrS tab 120 x3 1) o13) fun v14 o14 =>
 bd (ret1 (loadS tab o14 3 v14) o14) fun v15 o15 =>
 bd (callS ⟨tab, ownF, K⟩ o15 102 [v8, v11, v13, v15]) fun v16 o16 =>
 condS v16 (bd (ret1 (indexAddrS tab o16 92 x0 x6) o16) fun v17 o17 =>
 bd (ret1 (loadS tab o17 120 v17) o17) fun v18 o18 =>
 bd (buildSliceS tab o18 92 1 [(0, v18)]) fun v19 o19 =>
 bd (appendS tab o19 92 92 x5 v19) fun v20 o20 =>
 J98_4 K N nl m3 x0 x3 v20 x6 o20)
 (J98_4 K N nl m3 x0 x3 x5 x6 o16))
 (bd (ret1 (loadS tab o5 120 x3) o5) fun v21 o21 =>
 bd (buildSliceS tab o21 92 1 [(0, v21)]) fun v22 o22 =>
 bd (appendS tab o22 92 92 x5 v22) fun v23 o23 =>
 L98_9 K N nl N x0 x3 v23 (SV.v (.int .i64 0)) o23)
noncomputable def JB98_4 (K : Nat → List SV → List SO → Out) (N nl : Nat) (m3 : Nat) (x0 x3 x5 x6 : SV) (os : List SO) : Out :=
 bd (ret1 (binS tab .add 3 x6 (SV.v (.int .i64 1))) os) fun v24 o24 =>
 L98_3 K N nl m3 x0 x3 x5 v24 o24
noncomputable def GB98_9 (K : Nat → List SV → List SO → Out) (N nl : Nat) (m9 : Nat) (x0 x3 x5 x7 : SV) (os : List SO) : Out :=
 bd (lenO tab 92 os x0) fun v25 o25 =>
 bd (ret1 (binS tab .lss 3 x7 v25) o25) fun v26 o26 =>
 condS v26 (bd (ret1 (fieldAddrS tab 120 x3 0) o26) fun v27 o27 =>
 bd (ret1 (loadS tab o27 3 v27) o27) fun v28 o28 =>
 bd (ret1 (fieldAddrS tab 120 x3 1) o28) fun v29 o29 =>
 bd (ret1 (loadS tab o29 3 v29) o29) fun v30 o30 =>
 bd (ret1 (indexAddrS tab o30 92 x0 x7) o30) fun v31 o31 =>
 bd (ret1 (fieldAddrS tab 120 v31 0) o31) fun v32 o32 =>
 bd (ret1 (loadS tab o32 3 v32) o32) fun v33 o33 =>
 bd (ret1 (indexAddrS tab o33 92 x0 x7) o33) fun v34 o34 =>
 bd (ret1 (fieldAddrS tab 120 v34 1) o34) fun v35 o35 =>
 bd (ret1 (loadS tab o35 3 v35) o35) fun v36 o36 =>
 bd (callS ⟨tab, ownF, K⟩ o36 102 [v28, v30, v33, v36]) fun v37 o37 =>
 condS v37 (bd (ret1 (indexAddrS tab o37 92 x0 x7) o37) fun v38 o38 =>
 bd (ret1 (loadS tab o38 120 v38) o38) fun v39 o39 =>
 bd (buildSliceS tab o39 92 1 [(0, v39)]) fun v40 o40 =>
 bd (appendS tab o40 92 92 x5 v40) fun v41 o41 =>
 J98_10 K N nl m9 x0 x3 v41 x7 o41)
 (J98_10 K N nl m9 x0 x3 x5 x7 o37))
 (retV tab nl o26 (resC1 (some x5) (some [])))
noncomputable def JB98_10 (K : Nat → List SV → List SO → Out) (N nl : Nat) (m9 : Nat) (x0 x3 x5 x7 : SV) (os : List SO) : Out :=
 bd (ret1 (binS tab .add 3 x7 (SV.v (.int .i64 1))) os) fun v42 o42 =>
 L98_9 K N nl m9 x0 x3 x5 v42 o42
noncomputable def X98 (K : Nat → List SV → List SO → Out) (N nl : Nat) (x0 x1 : SV) (os : List SO) : Out := exec (cx K) N nl fi98 c98 [(0, x0), (1, x1)] os (kEnd tab nl rs98)
noncomputable def B98 (K : Nat → List SV → List SO → Out) (N nl : Nat) (x0 x1 : SV) (os : List SO) : Out :=
 bd (boxS tab os 120 (some x1)) fun v1 o1 =>
 bd (evN tab 92 o1 none) fun v2 o2 =>
 bd (buildSliceS tab o2 92 0 []) fun v3 o3 =>
 L98_3 K N nl N x0 v1 v3 (SV.v (.int .i64 0)) o3
noncomputable def X99 (K : Nat → List SV → List SO → Out) (N nl : Nat) (x0 x1 : SV) (os : List SO) : Out := exec (cx K) N nl fi99 c99 [(0, x0), (1, x1)] os (kEnd tab nl rs99)
noncomputable def B99 (K : Nat → List SV → List SO → Out) (N nl : Nat) (x0 x1 : SV) (os : List SO) : Out :=
 bd (boxS tab os 25 (some x0)) fun v1 o1 =>
 bd (ret1 (loadS tab o1 25 v1) o1) fun v2 o2 =>
 bd (callS ⟨tab, ownF, K⟩ o2 50 [v2]) fun v3 o3 =>
 bd (gd v3 true (some (x1, o3)) o3) fun v4 o4 =>
 bd (gd v3 true (callS ⟨tab, ownF, K⟩ o4 83 [v4]) o4) fun v5 o5 =>
 bd (ret1 (pickS v3 v5 (SV.v (.bool false))) o5) fun v6 o6 =>
 bd (gd v6 true (ret1 (fieldAddrS tab 25 v1 1) o6) o6) fun v7 o7 =>
 bd (gd v6 true (ret1 (loadS tab o7 23 v7) o7) o7) fun v8 o8 =>
 bd (gd v6 true (some (x1, o8)) o8) fun v9 o9 =>
 dchk (keepOk ⟨tab, ownF, K⟩ o9 (SV.fn 104 []) [v8, v9] [] true) <|
 bd (gd v6 true (callS ⟨tab, ownF, K⟩ o9 104 [v8, v9]) o9) fun v10 o10 =>
 bd (gd v6 true (ret1 (fieldAddrS tab 25 v1 2) o10) o10) fun v11 o11 =>
 dchk (isBox v11) <|
 bd (gd v6 true (ret1 (loadS tab o11 3 v11) o11) o11) fun v12 o12 =>
 bd (gd v6 true (ret1 (binS tab .geq 3 v10 v12) o12) o12) fun v13 o13 =>
 bd (ret1 (pickS v6 v13 (SV.v (.bool false))) o13) fun v14 o14 =>
 retV tab nl o14 (resC1 (some v14) (some []))
noncomputable def X100 (K : Nat → List SV → List SO → Out) (N nl : Nat) (x0 : SV) (os : List SO) : Out := exec (cx K) N nl fi100 c100 [(0, x0)] os (kEnd tab nl rs100)
noncomputable def B100 (K : Nat → List SV → List SO → Out) (N nl : Nat) (x0 : SV) (os : List SO) : Out :=
 bd (boxS tab os 29 (some x0)) fun v1 o1 =>
 bd (allocS tab o1 29) fun v2 o2 =>
 bd (buildSliceS tab o2 27 0 []) fun v3 o3 =>
 bd (ret1 (fieldAddrS tab 29 v1 2) o3) fun v4 o4 =>
 bd (ret1 (loadS tab o4 27 v4) o4) fun v5 o5 =>
 bd (appendS tab o5 27 27 v3 v5) fun v6 o6 =>
 bd (ret1 (fieldAddrS tab 29 v1 2) o6) fun v7 o7 =>
 bd (storeO tab o7 27 v7 (some v6)) fun v8 o8 =>
 bd (ret1 (loadS tab o8 29 v1) o8) fun v9 o9 =>
 bd (storeO tab o9 29 v2 (some v9)) fun v10 o10 =>
 retV tab nl o10 (resC1 (loadS tab o10 29 v2) (some []))
noncomputable def X102 (K : Nat → List SV → List SO → Out) (N nl : Nat) (x0 x1 x2 x3 : SV) (os : List SO) : Out := exec (cx K) N nl fi102 c102 [(0, x0), (1, x1), (2, x2), (3, x3)] os (kEnd tab nl rs102)
noncomputable def B102 (K : Nat → List SV → List SO → Out) (N nl : Nat) (x0 x1 x2 x3 : SV) (os : List SO) : Out :=
 bd (ret1 (binS tab .lss 3 x0 x2) os) fun v1 o1 =>
 bd (gd v1 false (some (x0, o1)) o1) fun v2 o2 =>
 bd (gd v1 false (some (x2, o2)) o2) fun v3 o3 =>
 bd (gd v1 false (ret1 (binS tab .eql 3 v2 v3) o3) o3) fun v4 o4 =>
 bd (gd v1 false (some (v4, o4)) o4) fun v5 o5 =>
 bd (gd v5 true (some (x1, o5)) o5) fun v6 o6 =>
 bd (gd v5 true (some (x3, o6)) o6) fun v7 o7 =>
 bd (gd v5 true (ret1 (binS tab .lss 3 v6 v7) o7) o7) fun v8 o8 =>
 bd (gd v1 false (ret1 (pickS v5 v8 (SV.v (.bool false))) o8) o8) fun v9 o9 =>
 bd (ret1 (pickS v1 (SV.v (.bool true)) v9) o9) fun v10 o10 =>
 retV tab nl o10 (resC1 (some v10) (some []))
noncomputable def X103 (K : Nat → List SV → List SO → Out) (N nl : Nat) (x0 x1 : SV) (os : List SO) : Out := exec (cx K) N nl fi103 c103 [(0, x0), (1, x1)] os (kEnd tab nl rs103)
noncomputable def B103 (K : Nat → List SV → List SO → Out) (N nl : Nat) (x0 x1 : SV) (os : List SO) : Out :=
 bd (callS ⟨tab, ownF, K⟩ os 112 [x0, x1]) fun v1 o1 =>
 bd (ret1 (binS tab .geq 3 v1 (SV.v (.int .i64 0))) o1) fun v2 o2 =>
 retV tab nl o2 (resC1 (some v2) (some []))
noncomputable def bk104_3 (K : Nat → List SV → List SO → Out) (N nl : Nat) (m3 : Nat) : Env → List SO → Out := fun env os => loopS nl (fi104.lp 3) (fun env os nx => exec (cx K) N nl fi104 (subC c104 [1, 1, 0, 1, 0, 0]) env os (kLoop nx (kBlock 0 (kSeq (exec (cx K) N nl fi104 (subC c104 [1, 1, 1])) (fi104.jn 10) (kEnd tab nl rs104))))) m3 (killS (fi104.lp 3).alive env) os
noncomputable def bk104_6 (K : Nat → List SV → List SO → Out) (N nl : Nat) (m3 : Nat) (m6 : Nat) : Env → List SO → Out := fun env os => loopS nl (fi104.lp 6) (fun env os nx => exec (cx K) N nl fi104 (subC c104 [1, 1, 0, 1, 0, 0, 1, 0, 0, 1, 0, 0]) env os (kLoop nx (kBlock 2 (kBlock 1 (kSeq (exec (cx K) N nl fi104 (subC c104 [1, 1, 0, 1, 0, 0, 1, 1])) (fi104.jn 4) (kLoop (bk104_3 K N nl m3) (kBlock 0 (kSeq (exec (cx K) N nl fi104 (subC c104 [1, 1, 1])) (fi104.jn 10) (kEnd tab nl rs104))))))))) m6 (killS (fi104.lp 6).alive env) os
noncomputable def L104_3 (K : Nat → List SV → List SO → Out) (N nl : Nat) (m3 : Nat) (x0 x1 x5 x6 : SV) (os : List SO) : Out := loopS nl (fi104.lp 3) (fun env os nx => exec (cx K) N nl fi104 (subC c104 [1, 1, 0, 1, 0, 0]) env os (kLoop nx (kBlock 0 (kSeq (exec (cx K) N nl fi104 (subC c104 [1, 1, 1])) (fi104.jn 10) (kEnd tab nl rs104))))) m3 [(0, x0), (1, x1), (5, x5), (6, x6)] os
noncomputable def L104_6 (K : Nat → List SV → List SO → Out) (N nl : Nat) (m3 : Nat) (m6 : Nat) (x0 x1 x5 x6 x7 : SV) (os : List SO) : Out := loopS nl (fi104.lp 6) (fun env os nx => exec (cx K) N nl fi104 (subC c104 [1, 1, 0, 1, 0, 0, 1, 0, 0, 1, 0, 0]) env os (kLoop nx (kBlock 2 (kBlock 1 (kSeq (exec (cx K) N nl fi104 (subC c104 [1, 1, 0, 1, 0, 0, 1, 1])) (fi104.jn 4) (kLoop (bk104_3 K N nl m3) (kBlock 0 (kSeq (exec (cx K) N nl fi104 (subC c104 [1, 1, 1])) (fi104.jn 10) (kEnd tab nl rs104))))))))) m6 [(0, x0), (1, x1), (5, x5), (6, x6), (7, x7)] os
noncomputable def J104_7 (K : Nat → List SV → List SO → Out) (N nl : Nat) (m3 m6 : Nat) (x0 x1 x5 x6 x7 : SV) (os : List SO) : Out := exec (cx K) N nl fi104 (subC c104 [1, 1, 0, 1, 0, 0, 1, 0, 0, 1, 0, 0, 1, 1]) [(0, x0), (1, x1), (5, x5), (6, x6), (7, x7)] os (kLoop (bk104_6 K N nl m3 m6) (kBlock 2 (kBlock 1 (kSeq (exec (cx K) N nl fi104 (subC c104 [1, 1, 0, 1, 0, 0, 1, 1])) (fi104.jn 4) (kLoop (bk104_3 K N nl m3) (kBlock 0 (kSeq (exec (cx K) N nl fi104 (subC c104 [1, 1, 1])) (fi104.jn 10) (kEnd tab nl rs104))))))))
noncomputable def LB104_3 (K : Nat → List SV → List SO → Out) (N nl : Nat) (m3 : Nat) (x0 x1 x5 x6 : SV) (os : List SO) : Out :=
 bd (lenO tab 23 os x0) fun v1 o1 =>
 bd (ret1 (binS tab .lss 3 x6 v1) o1) fun v2 o2 =>
 condS v2 (L104_6 K N nl m3 N x0 x1 x5 x6 (SV.v (.int .i64 0)) o2)
 (retV tab nl o2 (resC1 (some x5) (some [])))
noncomputable def LB104_6 (K : Nat → List SV → List SO → Out) (N nl : Nat) (m3 : Nat) (m6 : Nat) (x0 x1 x5 x6 x7 : SV) (os : List SO) : Out :=
 bd (lenO tab 23 os x1) fun v3 o3 =>
 bd (ret1 (binS tab .lss 3 x7 v3) o3) fun v4 o4 =>
 condS v4 (bd (ret1 (indexAddrS tab o4 23 x0 x6) o4) fun v5 o5 =>
 bd (ret1 (loadS tab o5 3 v5) o5) fun v6 o6 =>
 bd (ret1 (indexAddrS tab o6 23 x1 x7) o6) fun v7 o7 =>
 bd (ret1 (loadS tab o7 3 v7) o7) fun v8 o8 =>
 bd (ret1 (binS tab .eql 3 v6 v8) o8) fun v9 o9 =>
 condS v9 (bd (ret1 (binS tab .add 3 x5 (SV.v (.int .i64 1))) o9) fun v10 o10 =>
 J104_7 K N nl m3 m6 x0 x1 v10 x6 x7 o10)
 (J104_7 K N nl m3 m6 x0 x1 x5 x6 x7 o9))
 (bd (ret1 (binS tab .add 3 x6 (SV.v (.int .i64 1))) o4) fun v11 o11 =>
 L104_3 K N nl m3 x0 x1 x5 v11 o11)
noncomputable def JB104_7 (K : Nat → List SV → List SO → Out) (N nl : Nat) (m3 m6 : Nat) (x0 x1 x5 x6 x7 : SV) (os : List SO) : Out :=
 bd (ret1 (binS tab .add 3 x7 (SV.v (.int .i64 1))) os) fun v12 o12 =>
 L104_6 K N nl m3 m6 x0 x1 x5 x6 v12 o12
noncomputable def X104 (K : Nat → List SV → List SO → Out) (N nl : Nat) (x0 x1 : SV) (os : List SO) : Out := exec (cx K) N nl fi104 c104 [(0, x0), (1, x1)] os (kEnd tab nl rs104)
noncomputable def B104 (K : Nat → List SV → List SO → Out) (N nl : Nat) (x0 x1 : SV) (os : List SO) : Out :=
 L104_3 K N nl N x0 x1 (SV.v (.int .i64 0)) (SV.v (.int .i64 0)) os
noncomputable def X105 (K : Nat → List SV → List SO → Out) (N nl : Nat) (x0 x1 : SV) (os : List SO) : Out := exec (cx K) N nl fi105 c105 [(0, x0), (1, x1)] os (kEnd tab nl rs105)
noncomputable def B105 (K : Nat → List SV → List SO → Out) (N nl : Nat) (x0 x1 : SV) (os : List SO) : Out :=
 bd (boxS tab os 25 (some x0)) fun v1 o1 =>
 bd (boxS tab o1 53 (some x1)) fun v2 o2 =>
 bd (ret1 (loadS tab o2 25 v1) o2) fun v3 o3 =>
 bd (ret1 (fieldAddrS tab 53 v2 1) o3) fun v4 o4 =>
 bd (ret1 (loadS tab o4 23 v4) o4) fun v5 o5 =>
 bd (callS ⟨tab, ownF, K⟩ o5 99 [v3, v5]) fun v6 o6 =>
 bd (gd v6 true (ret1 (fieldAddrS tab 53 v2 0) o6) o6) fun v7 o7 =>
 bd (gd v6 true (ret1 (loadS tab o7 25 v7) o7) o7) fun v8 o8 =>
 bd (gd v6 true (ret1 (fieldAddrS tab 53 v2 1) o8) o8) fun v9 o9 =>
 bd (gd v6 true (ret1 (loadS tab o9 23 v9) o9) o9) fun v10 o10 =>
 bd (gd v6 true (callS ⟨tab, ownF, K⟩ o10 99 [v8, v10]) o10) fun v11 o11 =>
 bd (ret1 (pickS v6 v11 (SV.v (.bool false))) o11) fun v12 o12 =>
 bd (gd v12 true (ret1 (fieldAddrS tab 53 v2 0) o12) o12) fun v13 o13 =>
 bd (gd v12 true (ret1 (fieldAddrS tab 25 v13 0) o13) o13) fun v14 o14 =>
 bd (gd v12 true (ret1 (loadS tab o14 3 v14) o14) o14) fun v15 o15 =>
 bd (gd v12 true (ret1 (fieldAddrS tab 25 v1 0) o15) o15) fun v16 o16 =>
 bd (gd v12 true (ret1 (loadS tab o16 3 v16) o16) o16) fun v17 o17 =>
 bd (gd v12 true (ret1 (binS tab .add 3 v17 (SV.v (.int .i64 1))) o17) o17) fun v18 o18 =>
 bd (gd v12 true (ret1 (binS tab .eql 3 v15 v18) o18) o18) fun v19 o19 =>
 bd (ret1 (pickS v12 v19 (SV.v (.bool false))) o19) fun v20 o20 =>
 retV tab nl o20 (resC1 (some v20) (some []))
noncomputable def X106 (K : Nat → List SV → List SO → Out) (N nl : Nat) (x0 x1 : SV) (os : List SO) : Out := exec (cx K) N nl fi106 c106 [(0, x0), (1, x1)] os (kEnd tab nl rs106)
noncomputable def B106 (K : Nat → List SV → List SO → Out) (N nl : Nat) (x0 x1 : SV) (os : List SO) : Out :=
 bd (lenO tab 60 os x0) fun v1 o1 =>
 bd (ret1 (binS tab .sub 3 x1 v1) o1) fun v2 o2 =>
 bd (ret1 (binS tab .lss 3 v2 (SV.v (.int .i64 0))) o2) fun v3 o3 =>
 condS v3 (retV tab nl o3 (resC1 (some (SV.v (.int .i64 (-1)))) (some [])))
 (retV tab nl o3 (resC1 (some v2) (some [])))
noncomputable def bk107_3 (K : Nat → List SV → List SO → Out) (N nl : Nat) (m3 : Nat) : Env → List SO → Out := fun env os => loopS nl (fi107.lp 3) (fun env os nx => exec (cx K) N nl fi107 (subC c107 [1, 1, 0, 1, 0, 0]) env os (kLoop nx (kBlock 0 (kSeq (exec (cx K) N nl fi107 (subC c107 [1, 1, 1])) (fi107.jn 6) (kEnd tab nl rs107))))) m3 (killS (fi107.lp 3).alive env) os
noncomputable def L107_3 (K : Nat → List SV → List SO → Out) (N nl : Nat) (m3 : Nat) (x0 x3 x4 : SV) (os : List SO) : Out := loopS nl (fi107.lp 3) (fun env os nx => exec (cx K) N nl fi107 (subC c107 [1, 1, 0, 1, 0, 0]) env os (kLoop nx (kBlock 0 (kSeq (exec (cx K) N nl fi107 (subC c107 [1, 1, 1])) (fi107.jn 6) (kEnd tab nl rs107))))) m3 [(0, x0), (3, x3), (4, x4)] os
noncomputable def LB107_3 (K : Nat → List SV → List SO → Out) (N nl : Nat) (m3 : Nat) (x0 x3 x4 : SV) (os : List SO) : Out :=
 bd (lenO tab 60 os x0) fun v4 o4 =>
 bd (ret1 (binS tab .lss 3 x4 v4) o4) fun v5 o5 =>
 condS v5 (bd (ret1 (indexAddrS tab o5 60 x0 x4) o5) fun v6 o6 =>
 bd (ret1 (loadS tab o6 141 v6) o6) fun v7 o7 =>
 bd (callS ⟨tab, ownF, K⟩ o7 113 [v7]) fun v8 o8 =>
 bd (ret1 (indexAddrS tab o8 27 x3 x4) o8) fun v9 o9 =>
 bd (storeO tab o9 112 v9 (some v8)) fun v10 o10 =>
 bd (ret1 (binS tab .add 3 x4 (SV.v (.int .i64 1))) o10) fun v11 o11 =>
 L107_3 K N nl m3 x0 x3 v11 o11)
 (retV tab nl o5 (resC1 (some x3) (some [])))
noncomputable def X107 (K : Nat → List SV → List SO → Out) (N nl : Nat) (x0 : SV) (os : List SO) : Out := exec (cx K) N nl fi107 c107 [(0, x0)] os (kEnd tab nl rs107)
noncomputable def B107 (K : Nat → List SV → List SO → Out) (N nl : Nat) (x0 : SV) (os : List SO) : Out :=
 bd (evN tab 27 os none) fun v1 o1 =>
 bd (lenO tab 60 o1 x0) fun v2 o2 =>
 bd (makeS tab o2 27 v2 v2) fun v3 o3 =>
 L107_3 K N nl N x0 v3 (SV.v (.int .i64 0)) o3
noncomputable def X108 (K : Nat → List SV → List SO → Out) (N nl : Nat) (x0 x1 : SV) (os : List SO) : Out := exec (cx K) N nl fi108 c108 [(0, x0), (1, x1)] os (kEnd tab nl rs108)
noncomputable def B108 (K : Nat → List SV → List SO → Out) (N nl : Nat) (x0 x1 : SV) (os : List SO) : Out :=
 bd (boxS tab os 112 (some x0)) fun v1 o1 =>
 bd (boxS tab o1 112 (some x1)) fun v2 o2 =>
 bd (ret1 (fieldAddrS tab 112 v1 0) o2) fun v3 o3 =>
 bd (ret1 (loadS tab o3 3 v3) o3) fun v4 o4 =>
 bd (ret1 (fieldAddrS tab 112 v2 0) o4) fun v5 o5 =>
 bd (ret1 (loadS tab o5 3 v5) o5) fun v6 o6 =>
 bd (ret1 (binS tab .neq 3 v4 v6) o6) fun v7 o7 =>
 condS v7 (retV tab nl o7 (resC1 (some (SV.v (.bool false))) (some [])))
 (bd (ret1 (fieldAddrS tab 112 v1 1) o7) fun v8 o8 =>
 bd (ret1 (loadS tab o8 3 v8) o8) fun v9 o9 =>
 bd (ret1 (fieldAddrS tab 112 v2 1) o9) fun v10 o10 =>
 bd (ret1 (loadS tab o10 3 v10) o10) fun v11 o11 =>
 bd (ret1 (binS tab .neq 3 v9 v11) o11) fun v12 o12 =>
 condS v12 (retV tab nl o12 (resC1 (some (SV.v (.bool false))) (some [])))
 (bd (ret1 (fieldAddrS tab 112 v1 2) o12) fun v13 o13 =>
 bd (ret1 (loadS tab o13 3 v13) o13) fun v14 o14 =>
 bd (ret1 (fieldAddrS tab 112 v2 2) o14) fun v15 o15 =>
 bd (ret1 (loadS tab o15 3 v15) o15) fun v16 o16 =>
 bd (ret1 (binS tab .neq 3 v14 v16) o16) fun v17 o17 =>
 condS v17 (retV tab nl o17 (resC1 (some (SV.v (.bool false))) (some [])))
 (retV tab nl o17 (resC1 (some (SV.v (.bool true))) (some [])))))
noncomputable def X109 (K : Nat → List SV → List SO → Out) (N nl : Nat) (x0 : SV) (os : List SO) : Out := exec (cx K) N nl fi109 c109 [(0, x0)] os (kEnd tab nl rs109)
noncomputable def B109 (K : Nat → List SV → List SO → Out) (N nl : Nat) (x0 : SV) (os : List SO) : Out :=
 bd (boxS tab os 120 (some x0)) fun v1 o1 =>
 bd (ret1 (fieldAddrS tab 120 v1 0) o1) fun v2 o2 =>
 bd (ret1 (loadS tab o2 3 v2) o2) fun v3 o3 =>
 bd (callS ⟨tab, ownF, K⟩ o3 70 [v3, (SV.v (.int .i64 1)), (SV.v (.int .i64 4))]) fun v4 o4 =>
 bd (gd v4 true (ret1 (fieldAddrS tab 120 v1 1) o4) o4) fun v5 o5 =>
 bd (gd v4 true (ret1 (loadS tab o5 3 v5) o5) o5) fun v6 o6 =>
 bd (gd v4 true (callS ⟨tab, ownF, K⟩ o6 70 [v6, (SV.v (.int .i64 1)), (SV.v (.int .i64 5))]) o6) fun v7 o7 =>
 bd (ret1 (pickS v4 v7 (SV.v (.bool false))) o7) fun v8 o8 =>
 bd (gd v8 true (ret1 (fieldAddrS tab 120 v1 2) o8) o8) fun v9 o9 =>
 bd (gd v8 true (ret1 (loadS tab o9 117 v9) o9) o9) fun v10 o10 =>
 bd (gd v8 true (callS ⟨tab, ownF, K⟩ o10 114 [v10]) o10) fun v11 o11 =>
 bd (ret1 (pickS v8 v11 (SV.v (.bool false))) o11) fun v12 o12 =>
 bd (gd v12 true (ret1 (fieldAddrS tab 120 v1 0) o12) o12) fun v13 o13 =>
 bd (gd v12 true (ret1 (loadS tab o13 3 v13) o13) o13) fun v14 o14 =>
 bd (gd v12 true (ret1 (fieldAddrS tab 120 v1 3) o14) o14) fun v15 o15 =>
 bd (gd v12 true (ret1 (loadS tab o15 118 v15) o15) o15) fun v16 o16 =>
 bd (gd v12 true (callS ⟨tab, ownF, K⟩ o16 115 [v14, v16]) o16) fun v17 o17 =>
 bd (ret1 (pickS v12 v17 (SV.v (.bool false))) o17) fun v18 o18 =>
 retV tab nl o18 (resC1 (some v18) (some []))
noncomputable def X110 (K : Nat → List SV → List SO → Out) (N nl : Nat) (x0 x1 : SV) (os : List SO) : Out := exec (cx K) N nl fi110 c110 [(0, x0), (1, x1)] os (kEnd tab nl rs110)
noncomputable def B110 (K : Nat → List SV → List SO → Out) (N nl : Nat) (x0 x1 : SV) (os : List SO) : Out :=
 both (both (bd (ret1 (binS tab .add 3 (SV.v (.int .i64 97)) x0) os) fun v1 o1 =>
 bd (ret1 (binS tab .sub 3 v1 (SV.v (.int .i64 1))) o1) fun v2 o2 =>
 bd (convS tab o2 3 5 v2) fun v3 o3 =>
 bd (buildSliceS tab o3 22 1 [(0, v3)]) fun v4 o4 =>
 bd (convS tab o4 22 9 v4) fun v5 o5 =>
 bd (callS ⟨tab, ownF, K⟩ o5 111 [x1]) fun v6 o6 =>
 bd (ret1 (binS tab .add 9 v5 v6) o6) fun v7 o7 =>
 retV tab nl o7 (resC1 (some v7) (some [])))
 (bd (ret1 (binS tab .add 3 (SV.v (.int .i64 97)) x0) os) fun v8 o8 =>
 bd (ret1 (binS tab .sub 3 v8 (SV.v (.int .i64 1))) o8) fun v9 o9 =>
 bd (convS tab o9 3 5 v9) fun v10 o10 =>
 bd (buildSliceS tab o10 22 1 [(0, v10)]) fun v11 o11 =>
 bd (callS ⟨tab, ownF, K⟩ o11 111 [x1]) fun v12 o12 =>
 bd (convS tab o12 22 9 v11) fun v13 o13 =>
 bd (ret1 (binS tab .add 9 v13 v12) o13) fun v14 o14 =>
 retV tab nl o14 (resC1 (some v14) (some []))))
 (bd (ret1 (binS tab .add 3 (SV.v (.int .i64 97)) x0) os) fun v15 o15 =>
 bd (ret1 (binS tab .sub 3 v15 (SV.v (.int .i64 1))) o15) fun v16 o16 =>
 bd (convS tab o16 3 5 v16) fun v17 o17 =>
 bd (callS ⟨tab, ownF, K⟩ o17 111 [x1]) fun v18 o18 =>
 bd (buildSliceS tab o18 22 1 [(0, v17)]) fun v19 o19 =>
 bd (convS tab o19 22 9 v19) fun v20 o20 =>
 bd (ret1 (binS tab .add 9 v20 v18) o20) fun v21 o21 =>
 retV tab nl o21 (resC1 (some v21) (some [])))
noncomputable def X111 (K : Nat → List SV → List SO → Out) (N nl : Nat) (x0 : SV) (os : List SO) : Out := exec (cx K) N nl fi111 c111 [(0, x0)] os (kEnd tab nl rs111)
noncomputable def B111 (K : Nat → List SV → List SO → Out) (N nl : Nat) (x0 : SV) (os : List SO) : Out :=
 bd (ret1 (binS tab .lss 3 x0 (SV.v (.int .i64 (-9223372036854775807)))) os) fun v1 o1 =>
 condS v1 (retV tab nl o1 (resC1 (some (SV.v (.string ⟨#[45, 57, 50, 50, 51, 51, 55, 50, 48, 51, 54, 56, 53, 52, 55, 55, 53, 56, 48, 56]⟩))) (some [])))
 (bd (ret1 (binS tab .lss 3 x0 (SV.v (.int .i64 0))) o1) fun v2 o2 =>
 condS v2 (bd (ret1 (unS .neg x0) o2) fun v3 o3 =>
 bd (callS ⟨tab, ownF, K⟩ o3 111 [v3]) fun v4 o4 =>
 bd (ret1 (binS tab .add 9 (SV.v (.string ⟨#[45]⟩)) v4) o4) fun v5 o5 =>
 retV tab nl o5 (resC1 (some v5) (some [])))
 (bd (ret1 (binS tab .lss 3 x0 (SV.v (.int .i64 10))) o2) fun v6 o6 =>
 condS v6 (bd (ret1 (binS tab .add 3 (SV.v (.int .i64 48)) x0) o6) fun v7 o7 =>
 bd (convS tab o7 3 5 v7) fun v8 o8 =>
 bd (buildSliceS tab o8 22 1 [(0, v8)]) fun v9 o9 =>
 bd (convS tab o9 22 9 v9) fun v10 o10 =>
 retV tab nl o10 (resC1 (some v10) (some [])))
 (both (bd (ret1 (binS tab .quo 3 x0 (SV.v (.int .i64 10))) o6) fun v11 o11 =>
 bd (callS ⟨tab, ownF, K⟩ o11 111 [v11]) fun v12 o12 =>
 bd (ret1 (binS tab .rem 3 x0 (SV.v (.int .i64 10))) o12) fun v13 o13 =>
 bd (ret1 (binS tab .add 3 (SV.v (.int .i64 48)) v13) o13) fun v14 o14 =>
 bd (convS tab o14 3 5 v14) fun v15 o15 =>
 bd (buildSliceS tab o15 22 1 [(0, v15)]) fun v16 o16 =>
 bd (convS tab o16 22 9 v16) fun v17 o17 =>
 bd (ret1 (binS tab .add 9 v12 v17) o17) fun v18 o18 =>
 retV tab nl o18 (resC1 (some v18) (some [])))
 (both (bd (ret1 (binS tab .quo 3 x0 (SV.v (.int .i64 10))) o6) fun v19 o19 =>
 bd (ret1 (binS tab .rem 3 x0 (SV.v (.int .i64 10))) o19) fun v20 o20 =>
 bd (ret1 (binS tab .add 3 (SV.v (.int .i64 48)) v20) o20) fun v21 o21 =>
 bd (convS tab o21 3 5 v21) fun v22 o22 =>
 bd (buildSliceS tab o22 22 1 [(0, v22)]) fun v23 o23 =>
 bd (callS ⟨tab, ownF, K⟩ o23 111 [v19]) fun v24 o24 =>
 bd (convS tab o24 22 9 v23) fun v25 o25 =>
 bd (ret1 (binS tab .add 9 v24 v25) o25) fun v26 o26 =>
 retV tab nl o26 (resC1 (some v26) (some [])))
 (bd (ret1 (binS tab .quo 3 x0 (SV.v (.int .i64 10))) o6) fun v27 o27 =>
 bd (ret1 (binS tab .rem 3 x0 (SV.v (.int .i64 10))) o27) fun v28 o28 =>
 bd (ret1 (binS tab .add 3 (SV.v (.int .i64 48)) v28) o28) fun v29 o29 =>
 bd (convS tab o29 3 5 v29) fun v30 o30 =>
 bd (buildSliceS tab o30 22 1 [(0, v30)]) fun v31 o31 =>
 bd (convS tab o31 22 9 v31) fun v32 o32 =>
 bd (callS ⟨tab, ownF, K⟩ o32 111 [v27]) fun v33 o33 =>
 bd (ret1 (binS tab .add 9 v33 v32) o33) fun v34 o34 =>
 retV tab nl o34 (resC1 (some v34) (some [])))))))
noncomputable def bk112_2 (K : Nat → List SV → List SO → Out) (N nl : Nat) (m2 : Nat) : Env → List SO → Out := fun env os => loopS nl (fi112.lp 2) (fun env os nx => exec (cx K) N nl fi112 (subC c112 [1, 0, 1, 0, 0]) env os (kLoop nx (kBlock 0 (kSeq (exec (cx K) N nl fi112 (subC c112 [1, 1])) (fi112.jn 7) (kEnd tab nl rs112))))) m2 (killS (fi112.lp 2).alive env) os
noncomputable def L112_2 (K : Nat → List SV → List SO → Out) (N nl : Nat) (m2 : Nat) (x0 x1 x7 x8 : SV) (os : List SO) : Out := loopS nl (fi112.lp 2) (fun env os nx => exec (cx K) N nl fi112 (subC c112 [1, 0, 1, 0, 0]) env os (kLoop nx (kBlock 0 (kSeq (exec (cx K) N nl fi112 (subC c112 [1, 1])) (fi112.jn 7) (kEnd tab nl rs112))))) m2 [(0, x0), (1, x1), (7, x7), (8, x8)] os
noncomputable def LB112_2 (K : Nat → List SV → List SO → Out) (N nl : Nat) (m2 : Nat) (x0 x1 x7 x8 : SV) (os : List SO) : Out :=
 bd (ret1 (binS tab .lss 3 x8 x7) os) fun v2 o2 =>
 condS v2 (bd (ret1 (indexAddrS tab o2 23 x0 x8) o2) fun v3 o3 =>
 bd (ret1 (loadS tab o3 3 v3) o3) fun v4 o4 =>
 bd (ret1 (binS tab .eql 3 x1 v4) o4) fun v5 o5 =>
 condS v5 (retV tab nl o5 (resC1 (some x8) (some [])))
 (bd (ret1 (binS tab .add 3 x8 (SV.v (.int .i64 1))) o5) fun v6 o6 =>
 L112_2 K N nl m2 x0 x1 x7 v6 o6))
 (retV tab nl o2 (resC1 (some (SV.v (.int .i64 (-1)))) (some [])))
noncomputable def X112 (K : Nat → List SV → List SO → Out) (N nl : Nat) (x0 x1 : SV) (os : List SO) : Out := exec (cx K) N nl fi112 c112 [(0, x0), (1, x1)] os (kEnd tab nl rs112)
noncomputable def B112 (K : Nat → List SV → List SO → Out) (N nl : Nat) (x0 x1 : SV) (os : List SO) : Out :=
 bd (lenO tab 23 os x0) fun v1 o1 =>
 L112_2 K N nl N x0 x1 v1 (SV.v (.int .i64 0)) o1
noncomputable def X113 (K : Nat → List SV → List SO → Out) (N nl : Nat) (x0 : SV) (os : List SO) : Out := exec (cx K) N nl fi113 c113 [(0, x0)] os (kEnd tab nl rs113)
noncomputable def B113 (K : Nat → List SV → List SO → Out) (N nl : Nat) (x0 : SV) (os : List SO) : Out :=
 bd (boxS tab os 141 (some x0)) fun v1 o1 =>
 bd (allocS tab o1 112) fun v2 o2 =>
 bd (allocS tab o2 112) fun v3 o3 =>
 bd (ret1 (fieldAddrS tab 141 v1 0) o3) fun v4 o4 =>
 bd (ret1 (loadS tab o4 3 v4) o4) fun v5 o5 =>
 bd (ret1 (fieldAddrS tab 112 v3 0) o5) fun v6 o6 =>
 bd (storeO tab o6 3 v6 (some v5)) fun v7 o7 =>
 bd (ret1 (fieldAddrS tab 141 v1 1) o7) fun v8 o8 =>
 bd (ret1 (loadS tab o8 3 v8) o8) fun v9 o9 =>
 bd (ret1 (fieldAddrS tab 112 v3 1) o9) fun v10 o10 =>
 bd (storeO tab o10 3 v10 (some v9)) fun v11 o11 =>
 bd (ret1 (fieldAddrS tab 141 v1 2) o11) fun v12 o12 =>
 bd (ret1 (loadS tab o12 3 v12) o12) fun v13 o13 =>
 bd (ret1 (fieldAddrS tab 112 v3 2) o13) fun v14 o14 =>
 bd (storeO tab o14 3 v14 (some v13)) fun v15 o15 =>
 bd (ret1 (loadS tab o15 112 v3) o15) fun v16 o16 =>
 bd (storeO tab o16 112 v2 (some v16)) fun v17 o17 =>
 retV tab nl o17 (resC1 (loadS tab o17 112 v2) (some []))
noncomputable def bk114_2 (K : Nat → List SV → List SO → Out) (N nl : Nat) (m2 : Nat) : Env → List SO → Out := fun env os => loopS nl (fi114.lp 2) (fun env os nx => exec (cx K) N nl fi114 (subC c114 [1, 0, 1, 0, 0]) env os (kLoop nx (kBlock 0 (kSeq (exec (cx K) N nl fi114 (subC c114 [1, 1])) (fi114.jn 6) (kEnd tab nl rs114))))) m2 (killS (fi114.lp 2).alive env) os
noncomputable def L114_2 (K : Nat → List SV → List SO → Out) (N nl : Nat) (m2 : Nat) (x0 x3 : SV) (os : List SO) : Out := loopS nl (fi114.lp 2) (fun env os nx => exec (cx K) N nl fi114 (subC c114 [1, 0, 1, 0, 0]) env os (kLoop nx (kBlock 0 (kSeq (exec (cx K) N nl fi114 (subC c114 [1, 1])) (fi114.jn 6) (kEnd tab nl rs114))))) m2 [(0, x0), (3, x3)] os
noncomputable def LB114_2 (K : Nat → List SV → List SO → Out) (N nl : Nat) (m2 : Nat) (x0 x3 : SV) (os : List SO) : Out :=
 bd (lenO tab 117 os x0) fun v1 o1 =>
 bd (ret1 (binS tab .lss 3 x3 v1) o1) fun v2 o2 =>
 condS v2 (bd (ret1 (indexAddrS tab o2 117 x0 x3) o2) fun v3 o3 =>
 bd (ret1 (fieldAddrS tab 137 v3 0) o3) fun v4 o4 =>
 bd (ret1 (loadS tab o4 3 v4) o4) fun v5 o5 =>
 bd (callS ⟨tab, ownF, K⟩ o5 70 [v5, (SV.v (.int .i64 0)), (SV.v (.int .i64 5))]) fun v6 o6 =>
 bd (ret1 (unS .not v6) o6) fun v7 o7 =>
 bd (gd v7 false (some (x0, o7)) o7) fun v8 o8 =>
 bd (gd v7 false (some (x3, o8)) o8) fun v9 o9 =>
 bd (gd v7 false (ret1 (indexAddrS tab o9 117 v8 v9) o9) o9) fun v10 o10 =>
 bd (gd v7 false (ret1 (fieldAddrS tab 137 v10 1) o10) o10) fun v11 o11 =>
 bd (gd v7 false (ret1 (loadS tab o11 3 v11) o11) o11) fun v12 o12 =>
 bd (gd v7 false (callS ⟨tab, ownF, K⟩ o12 70 [v12, (SV.v (.int .i64 0)), (SV.v (.int .i64 9))]) o12) fun v13 o13 =>
 bd (gd v7 false (ret1 (unS .not v13) o13) o13) fun v14 o14 =>
 bd (ret1 (pickS v7 (SV.v (.bool true)) v14) o14) fun v15 o15 =>
 bd (gd v15 false (some (x3, o15)) o15) fun v16 o16 =>
 bd (gd v15 false (ret1 (binS tab .gtr 3 v16 (SV.v (.int .i64 0))) o16) o16) fun v17 o17 =>
 bd (gd v15 false (some (v17, o17)) o17) fun v18 o18 =>
 bd (gd v18 true (some (x0, o18)) o18) fun v19 o19 =>
 bd (gd v18 true (some (x3, o19)) o19) fun v20 o20 =>
 bd (gd v18 true (ret1 (binS tab .sub 3 v20 (SV.v (.int .i64 1))) o20) o20) fun v21 o21 =>
 bd (gd v18 true (ret1 (indexAddrS tab o21 117 v19 v21) o21) o21) fun v22 o22 =>
 bd (gd v18 true (ret1 (fieldAddrS tab 137 v22 0) o22) o22) fun v23 o23 =>
 bd (gd v18 true (ret1 (loadS tab o23 3 v23) o23) o23) fun v24 o24 =>
 bd (gd v18 true (some (x0, o24)) o24) fun v25 o25 =>
 bd (gd v18 true (some (x3, o25)) o25) fun v26 o26 =>
 bd (gd v18 true (ret1 (indexAddrS tab o26 117 v25 v26) o26) o26) fun v27 o27 =>
 bd (gd v18 true (ret1 (fieldAddrS tab 137 v27 0) o27) o27) fun v28 o28 =>
 bd (gd v18 true (ret1 (loadS tab o28 3 v28) o28) o28) fun v29 o29 =>
 bd (gd v18 true (ret1 (binS tab .geq 3 v24 v29) o29) o29) fun v30 o30 =>
 bd (gd v15 false (ret1 (pickS v18 v30 (SV.v (.bool false))) o30) o30) fun v31 o31 =>
 bd (ret1 (pickS v15 (SV.v (.bool true)) v31) o31) fun v32 o32 =>
 condS v32 (retV tab nl o32 (resC1 (some (SV.v (.bool false))) (some [])))
 (bd (ret1 (binS tab .add 3 x3 (SV.v (.int .i64 1))) o32) fun v33 o33 =>
 L114_2 K N nl m2 x0 v33 o33))
 (bd (lenO tab 117 o2 x0) fun v34 o34 =>
 bd (ret1 (binS tab .leq 3 v34 (SV.v (.int .i64 2))) o34) fun v35 o35 =>
 retV tab nl o35 (resC1 (some v35) (some [])))
noncomputable def X114 (K : Nat → List SV → List SO → Out) (N nl : Nat) (x0 : SV) (os : List SO) : Out := exec (cx K) N nl fi114 c114 [(0, x0)] os (kEnd tab nl rs114)
noncomputable def B114 (K : Nat → List SV → List SO → Out) (N nl : Nat) (x0 : SV) (os : List SO) : Out :=
 L114_2 K N nl N x0 (SV.v (.int .i64 0)) os
noncomputable def bk115_2 (K : Nat → List SV → List SO → Out) (N nl : Nat) (m2 : Nat) : Env → List SO → Out := fun env os => loopS nl (fi115.lp 2) (fun env os nx => exec (cx K) N nl fi115 (subC c115 [1, 0, 1, 0, 0]) env os (kLoop nx (kBlock 0 (kSeq (exec (cx K) N nl fi115 (subC c115 [1, 1])) (fi115.jn 7) (kEnd tab nl rs115))))) m2 (killS (fi115.lp 2).alive env) os
noncomputable def L115_2 (K : Nat → List SV → List SO → Out) (N nl : Nat) (m2 : Nat) (x0 x1 x5 : SV) (os : List SO) : Out := loopS nl (fi115.lp 2) (fun env os nx => exec (cx K) N nl fi115 (subC c115 [1, 0, 1, 0, 0]) env os (kLoop nx (kBlock 0 (kSeq (exec (cx K) N nl fi115 (subC c115 [1, 1])) (fi115.jn 7) (kEnd tab nl rs115))))) m2 [(0, x0), (1, x1), (5, x5)] os
noncomputable def G115_2 (K : Nat → List SV → List SO → Out) (N nl : Nat) (m2 : Nat) (xs : List SV) (os : List SO) : Out := (fun env os nx => exec (cx K) N nl fi115 (subC c115 [1, 0, 1, 0, 0]) env os (kLoop nx (kBlock 0 (kSeq (exec (cx K) N nl fi115 (subC c115 [1, 1])) (fi115.jn 7) (kEnd tab nl rs115))))) (zipE [0, 1, 5] xs) os (bk115_2 K N nl m2)
noncomputable def GB115_2 (K : Nat → List SV → List SO → Out) (N nl : Nat) (m2 : Nat) (x0 x1 x5 : SV) (os : List SO) : Out :=
 bd (lenO tab 118 os x1) fun v1 o1 =>
 bd (ret1 (binS tab .lss 3 x5 v1) o1) fun v2 o2 =>
 condS v2 (bd (ret1 (indexAddrS tab o2 118 x1 x5) o2) fun v3 o3 =>
 bd (ret1 (loadS tab o3 139 v3) o3) fun v4 o4 =>
 bd (allocS tab o4 139) fun v5 o5 =>
 bd (storeO tab o5 139 v5 (some v4)) fun v6 o6 =>
 bd (ret1 (fieldAddrS tab 139 v5 0) o6) fun v7 o7 =>
 bd (ret1 (loadS tab o7 3 v7) o7) fun v8 o8 =>
 bd (callS ⟨tab, ownF, K⟩ o8 70 [v8, (SV.v (.int .i64 1)), (SV.v (.int .i64 4))]) fun v9 o9 =>
 bd (ret1 (unS .not v9) o9) fun v10 o10 =>
 bd (gd v10 false (ret1 (fieldAddrS tab 139 v5 0) o10) o10) fun v11 o11 =>
 bd (gd v10 false (ret1 (loadS tab o11 3 v11) o11) o11) fun v12 o12 =>
 bd (gd v10 false (some (x0, o12)) o12) fun v13 o13 =>
 bd (gd v10 false (ret1 (binS tab .eql 3 v12 v13) o13) o13) fun v14 o14 =>
 bd (ret1 (pickS v10 (SV.v (.bool true)) v14) o14) fun v15 o15 =>
 bd (gd v15 false (ret1 (fieldAddrS tab 139 v5 1) o15) o15) fun v16 o16 =>
 bd (gd v15 false (ret1 (loadS tab o16 3 v16) o16) o16) fun v17 o17 =>
 bd (gd v15 false (callS ⟨tab, ownF, K⟩ o17 70 [v17, (SV.v (.int .i64 1)), (SV.v (.int .i64 5))]) o17) fun v18 o18 =>
 bd (gd v15 false (ret1 (unS .not v18) o18) o18) fun v19 o19 =>
 bd (ret1 (pickS v15 (SV.v (.bool true)) v19) o19) fun v20 o20 =>
 bd (gd v20 false (some (x5, o20)) o20) fun v21 o21 =>
 bd (gd v20 false (ret1 (binS tab .gtr 3 v21 (SV.v (.int .i64 0))) o21) o21) fun v22 o22 =>
 bd (gd v20 false (some (v22, o22)) o22) fun v23 o23 =>
 bd (gd v23 true (some (x1, o23)) o23) fun v24 o24 =>
 bd (gd v23 true (some (x5, o24)) o24) fun v25 o25 =>
 bd (gd v23 true (ret1 (binS tab .sub 3 v25 (SV.v (.int .i64 1))) o25) o25) fun v26 o26 =>
 bd (gd v23 true (ret1 (indexAddrS tab o26 118 v24 v26) o26) o26) fun v27 o27 =>
 bd (gd v23 true (ret1 (fieldAddrS tab 139 v27 0) o27) o27) fun v28 o28 =>
 bd (gd v23 true (ret1 (loadS tab o28 3 v28) o28) o28) fun v29 o29 =>
 bd (gd v23 true (ret1 (fieldAddrS tab 139 v5 0) o29) o29) fun v30 o30 =>
 bd (gd v23 true (ret1 (loadS tab o30 3 v30) o30) o30) fun v31 o31 =>
 bd (gd v23 true (ret1 (binS tab .geq 3 v29 v31) o31) o31) fun v32 o32 =>
 bd (gd v20 false (ret1 (pickS v23 v32 (SV.v (.bool false))) o32) o32) fun v33 o33 =>
 bd (ret1 (pickS v20 (SV.v (.bool true)) v33) o33) fun v34 o34 =>
 condS v34 (retV tab nl o34 (resC1 (some (SV.v (.bool false))) (some [])))
 (bd (ret1 (binS tab .add 3 x5 (SV.v (.int .i64 1))) o34) fun v35 o35 =>
 L115_2 K N nl m2 x0 x1 v35 o35))
 (bd (lenO tab 118 o2 x1) fun v36 o36 =>
 bd (ret1 (binS tab .leq 3 v36 (SV.v (.int .i64 2))) o36) fun v37 o37 =>
 retV tab nl o37 (resC1 (some v37) (some [])))
noncomputable def X115 (K : Nat → List SV → List SO → Out) (N nl : Nat) (x0 x1 : SV) (os : List SO) : Out := exec (cx K) N nl fi115 c115 [(0, x0), (1, x1)] os (kEnd tab nl rs115)
noncomputable def B115 (K : Nat → List SV → List SO → Out) (N nl : Nat) (x0 x1 : SV) (os : List SO) : Out :=
 L115_2 K N nl N x0 x1 (SV.v (.int .i64 0)) os
theorem X3_s (K : Nat → List SV → List SO → Out) (N nl : Nat) (x0 : SV) (os : List SO) : X3 K N nl x0 os = B3 K N nl x0 os := by kernel_rfl
theorem E3 (n : Nat) (x0 : SV) (os : List SO) : callF prg (n + 1) 3 [x0] os = X3 (callF prg n) (n + 1) os.length x0 os := by kernel_rfl
theorem U3 {Q : SV → List SO → Prop} {x0 : SV} {os : List SO} {nl : Nat} (hnl : os.length = nl) (h : Ev (fun n => B3 (callF prg n) (n + 1) nl x0 os) Q) : Ev (fun n => callF prg n 3 [x0] os) Q := by subst hnl; exact ev_fun (fun n => (E3 n _ _).trans (X3_s _ _ _ _ _)) h
theorem X4_s (K : Nat → List SV → List SO → Out) (N nl : Nat) (x0 : SV) (os : List SO) : X4 K N nl x0 os = B4 K N nl x0 os := by kernel_rfl
theorem E4 (n : Nat) (x0 : SV) (os : List SO) : callF prg (n + 1) 4 [x0] os = X4 (callF prg n) (n + 1) os.length x0 os := by kernel_rfl
theorem U4 {Q : SV → List SO → Prop} {x0 : SV} {os : List SO} {nl : Nat} (hnl : os.length = nl) (h : Ev (fun n => B4 (callF prg n) (n + 1) nl x0 os) Q) : Ev (fun n => callF prg n 4 [x0] os) Q := by subst hnl; exact ev_fun (fun n => (E4 n _ _).trans (X4_s _ _ _ _ _)) h
theorem X5_s (K : Nat → List SV → List SO → Out) (N nl : Nat) (x0 : SV) (os : List SO) : X5 K N nl x0 os = B5 K N nl x0 os := by kernel_rfl
theorem E5 (n : Nat) (x0 : SV) (os : List SO) : callF prg (n + 1) 5 [x0] os = X5 (callF prg n) (n + 1) os.length x0 os := by kernel_rfl
theorem U5 {Q : SV → List SO → Prop} {x0 : SV} {os : List SO} {nl : Nat} (hnl : os.length = nl) (h : Ev (fun n => B5 (callF prg n) (n + 1) nl x0 os) Q) : Ev (fun n => callF prg n 5 [x0] os) Q := by subst hnl; exact ev_fun (fun n => (E5 n _ _).trans (X5_s _ _ _ _ _)) h
theorem X6_s (K : Nat → List SV → List SO → Out) (N nl : Nat) (x0 : SV) (os : List SO) : X6 K N nl x0 os = B6 K N nl x0 os := by kernel_rfl
theorem E6 (n : Nat) (x0 : SV) (os : List SO) : callF prg (n + 1) 6 [x0] os = X6 (callF prg n) (n + 1) os.length x0 os := by kernel_rfl
theorem U6 {Q : SV → List SO → Prop} {x0 : SV} {os : List SO} {nl : Nat} (hnl : os.length = nl) (h : Ev (fun n => B6 (callF prg n) (n + 1) nl x0 os) Q) : Ev (fun n => callF prg n 6 [x0] os) Q := by subst hnl; exact ev_fun (fun n => (E6 n _ _).trans (X6_s _ _ _ _ _)) h
theorem X7_s (K : Nat → List SV → List SO → Out) (N nl : Nat) (x0 x1 : SV) (os : List SO) : X7 K N nl x0 x1 os = B7 K N nl x0 x1 os := by kernel_rfl
theorem E7 (n : Nat) (x0 x1 : SV) (os : List SO) : callF prg (n + 1) 7 [x0, x1] os = X7 (callF prg n) (n + 1) os.length x0 x1 os := by kernel_rfl
theorem U7 {Q : SV → List SO → Prop} {x0 x1 : SV} {os : List SO} {nl : Nat} (hnl : os.length = nl) (h : Ev (fun n => B7 (callF prg n) (n + 1) nl x0 x1 os) Q) : Ev (fun n => callF prg n 7 [x0, x1] os) Q := by subst hnl; exact ev_fun (fun n => (E7 n _ _ _).trans (X7_s _ _ _ _ _ _)) h
theorem X8_s (K : Nat → List SV → List SO → Out) (N nl : Nat) (x0 x1 : SV) (os : List SO) : X8 K N nl x0 x1 os = B8 K N nl x0 x1 os := by kernel_rfl
theorem E8 (n : Nat) (x0 x1 : SV) (os : List SO) : callF prg (n + 1) 8 [x0, x1] os = X8 (callF prg n) (n + 1) os.length x0 x1 os := by kernel_rfl
theorem U8 {Q : SV → List SO → Prop} {x0 x1 : SV} {os : List SO} {nl : Nat} (hnl : os.length = nl) (h : Ev (fun n => B8 (callF prg n) (n + 1) nl x0 x1 os) Q) : Ev (fun n => callF prg n 8 [x0, x1] os) Q := by subst hnl; exact ev_fun (fun n => (E8 n _ _ _).trans (X8_s _ _ _ _ _ _)) h
theorem X9_s (K : Nat → List SV → List SO → Out) (N nl : Nat) (x0 : SV) (os : List SO) : X9 K N nl x0 os = B9 K N nl x0 os := by kernel_rfl
theorem E9 (n : Nat) (x0 : SV) (os : List SO) : callF prg (n + 1) 9 [x0] os = X9 (callF prg n) (n + 1) os.length x0 os := by kernel_rfl
theorem U9 {Q : SV → List SO → Prop} {x0 : SV} {os : List SO} {nl : Nat} (hnl : os.length = nl) (h : Ev (fun n => B9 (callF prg n) (n + 1) nl x0 os) Q) : Ev (fun n => callF prg n 9 [x0] os) Q := by subst hnl; exact ev_fun (fun n => (E9 n _ _).trans (X9_s _ _ _ _ _)) h
theorem L10_12_s (K : Nat → List SV → List SO → Out) (N nl : Nat) (m12 : Nat) (x5 x9 x11 x12 x13 : SV) (os : List SO) : L10_12 K N nl (m12 + 1) x5 x9 x11 x12 x13 os = gcB nl [x5, x9, x11, x12, x13] os fun xs os => G10_12 K N nl m12 xs os := by kernel_rfl
theorem UL10_12 {nl c : Nat} {Q : SV → List SO → Prop} {x5 x9 x11 x12 x13 : SV} {os : List SO} (h : Ev (fun n => gcB nl [x5, x9, x11, x12, x13] os fun xs os => G10_12 (callF prg n) (n + 1) nl (n + 1 - (c + 1)) xs os) Q) : Ev (fun n => L10_12 (callF prg n) (n + 1) nl (n + 1 - c) x5 x9 x11 x12 x13 os) Q := ev_loop (L := fun n m => L10_12 (callF prg n) (n + 1) nl m x5 x9 x11 x12 x13 os) (fun n m => L10_12_s _ _ _ _ _ _ _ _ _ _) h
theorem VL10_12 {nl : Nat} {Q : SV → List SO → Prop} {x5 x9 x11 x12 x13 : SV} {os : List SO} (h : Ev (fun n => gcB nl [x5, x9, x11, x12, x13] os fun xs os => G10_12 (callF prg n) (n + 1) nl (n + 1 - 1) xs os) Q) : Ev (fun n => L10_12 (callF prg n) (n + 1) nl (n + 1) x5 x9 x11 x12 x13 os) Q := UL10_12 (c := 0) h
theorem G10_12_s (K : Nat → List SV → List SO → Out) (N nl : Nat) (m12 : Nat) (x5 x9 x11 x12 x13 : SV) (os : List SO) : G10_12 K N nl m12 [x5, x9, x11, x12, x13] os = GB10_12 K N nl m12 x5 x9 x11 x12 x13 os := by kernel_rfl
theorem UG10_12 {nl : Nat} {Q : SV → List SO → Prop} (m12 : Nat → Nat) {x5 x9 x11 x12 x13 : SV} {os : List SO} (h : Ev (fun n => GB10_12 (callF prg n) (n + 1) nl (m12 n) x5 x9 x11 x12 x13 os) Q) : Ev (fun n => G10_12 (callF prg n) (n + 1) nl (m12 n) [x5, x9, x11, x12, x13] os) Q := ev_eq (fun n => G10_12_s _ _ _ _ _ _ _ _ _ _) h
theorem X10_s (K : Nat → List SV → List SO → Out) (N nl : Nat) (x0 x1 : SV) (os : List SO) : X10 K N nl x0 x1 os = B10 K N nl x0 x1 os := by kernel_rfl
theorem E10 (n : Nat) (x0 x1 : SV) (os : List SO) : callF prg (n + 1) 10 [x0, x1] os = X10 (callF prg n) (n + 1) os.length x0 x1 os := by kernel_rfl
theorem U10 {Q : SV → List SO → Prop} {x0 x1 : SV} {os : List SO} {nl : Nat} (hnl : os.length = nl) (h : Ev (fun n => B10 (callF prg n) (n + 1) nl x0 x1 os) Q) : Ev (fun n => callF prg n 10 [x0, x1] os) Q := by subst hnl; exact ev_fun (fun n => (E10 n _ _ _).trans (X10_s _ _ _ _ _ _)) h
theorem J11_9_s (K : Nat → List SV → List SO → Out) (N nl : Nat) (x2 x3 x4 x8 x9 : SV) (os : List SO) : J11_9 K N nl x2 x3 x4 x8 x9 os = JB11_9 K N nl x2 x3 x4 x8 x9 os := by kernel_rfl
theorem UJ11_9 {nl : Nat} {Q : SV → List SO → Prop} {x2 x3 x4 x8 x9 : SV} {os : List SO} (h : Ev (fun n => JB11_9 (callF prg n) (n + 1) nl x2 x3 x4 x8 x9 os) Q) : Ev (fun n => J11_9 (callF prg n) (n + 1) nl x2 x3 x4 x8 x9 os) Q := ev_eq (fun n => J11_9_s _ _ _ _ _ _ _ _ _) h
theorem J11_32_s (K : Nat → List SV → List SO → Out) (N nl : Nat) (x8 x9 x12 x15 x17 x18 : SV) (os : List SO) : J11_32 K N nl x8 x9 x12 x15 x17 x18 os = JB11_32 K N nl x8 x9 x12 x15 x17 x18 os := by kernel_rfl
theorem UJ11_32 {nl : Nat} {Q : SV → List SO → Prop} {x8 x9 x12 x15 x17 x18 : SV} {os : List SO} (h : Ev (fun n => JB11_32 (callF prg n) (n + 1) nl x8 x9 x12 x15 x17 x18 os) Q) : Ev (fun n => J11_32 (callF prg n) (n + 1) nl x8 x9 x12 x15 x17 x18 os) Q := ev_eq (fun n => J11_32_s _ _ _ _ _ _ _ _ _ _) h
theorem X11_s (K : Nat → List SV → List SO → Out) (N nl : Nat) (x0 x1 x2 : SV) (os : List SO) : X11 K N nl x0 x1 x2 os = B11 K N nl x0 x1 x2 os := by kernel_rfl
theorem E11 (n : Nat) (x0 x1 x2 : SV) (os : List SO) : callF prg (n + 1) 11 [x0, x1, x2] os = X11 (callF prg n) (n + 1) os.length x0 x1 x2 os := by kernel_rfl
theorem U11 {Q : SV → List SO → Prop} {x0 x1 x2 : SV} {os : List SO} {nl : Nat} (hnl : os.length = nl) (h : Ev (fun n => B11 (callF prg n) (n + 1) nl x0 x1 x2 os) Q) : Ev (fun n => callF prg n 11 [x0, x1, x2] os) Q := by subst hnl; exact ev_fun (fun n => (E11 n _ _ _ _).trans (X11_s _ _ _ _ _ _ _)) h
theorem J12_9_s (K : Nat → List SV → List SO → Out) (N nl : Nat) (x2 x3 x6 x7 : SV) (os : List SO) : J12_9 K N nl x2 x3 x6 x7 os = JB12_9 K N nl x2 x3 x6 x7 os := by kernel_rfl
theorem UJ12_9 {nl : Nat} {Q : SV → List SO → Prop} {x2 x3 x6 x7 : SV} {os : List SO} (h : Ev (fun n => JB12_9 (callF prg n) (n + 1) nl x2 x3 x6 x7 os) Q) : Ev (fun n => J12_9 (callF prg n) (n + 1) nl x2 x3 x6 x7 os) Q := ev_eq (fun n => J12_9_s _ _ _ _ _ _ _ _) h
theorem J12_32_s (K : Nat → List SV → List SO → Out) (N nl : Nat) (x6 x7 x10 x13 x15 x16 : SV) (os : List SO) : J12_32 K N nl x6 x7 x10 x13 x15 x16 os = JB12_32 K N nl x6 x7 x10 x13 x15 x16 os := by kernel_rfl
theorem UJ12_32 {nl : Nat} {Q : SV → List SO → Prop} {x6 x7 x10 x13 x15 x16 : SV} {os : List SO} (h : Ev (fun n => JB12_32 (callF prg n) (n + 1) nl x6 x7 x10 x13 x15 x16 os) Q) : Ev (fun n => J12_32 (callF prg n) (n + 1) nl x6 x7 x10 x13 x15 x16 os) Q := ev_eq (fun n => J12_32_s _ _ _ _ _ _ _ _ _ _) h
theorem X12_s (K : Nat → List SV → List SO → Out) (N nl : Nat) (x0 x1 : SV) (os : List SO) : X12 K N nl x0 x1 os = B12 K N nl x0 x1 os := by kernel_rfl
theorem E12 (n : Nat) (x0 x1 : SV) (os : List SO) : callF prg (n + 1) 12 [x0, x1] os = X12 (callF prg n) (n + 1) os.length x0 x1 os := by kernel_rfl
theorem U12 {Q : SV → List SO → Prop} {x0 x1 : SV} {os : List SO} {nl : Nat} (hnl : os.length = nl) (h : Ev (fun n => B12 (callF prg n) (n + 1) nl x0 x1 os) Q) : Ev (fun n => callF prg n 12 [x0, x1] os) Q := by subst hnl; exact ev_fun (fun n => (E12 n _ _ _).trans (X12_s _ _ _ _ _ _)) h
theorem X13_s (K : Nat → List SV → List SO → Out) (N nl : Nat) (x0 : SV) (os : List SO) : X13 K N nl x0 os = B13 K N nl x0 os := by kernel_rfl
theorem E13 (n : Nat) (x0 : SV) (os : List SO) : callF prg (n + 1) 13 [x0] os = X13 (callF prg n) (n + 1) os.length x0 os := by kernel_rfl
theorem U13 {Q : SV → List SO → Prop} {x0 : SV} {os : List SO} {nl : Nat} (hnl : os.length = nl) (h : Ev (fun n => B13 (callF prg n) (n + 1) nl x0 os) Q) : Ev (fun n => callF prg n 13 [x0] os) Q := by subst hnl; exact ev_fun (fun n => (E13 n _ _).trans (X13_s _ _ _ _ _)) h
theorem X14_s (K : Nat → List SV → List SO → Out) (N nl : Nat) (x0 : SV) (os : List SO) : X14 K N nl x0 os = B14 K N nl x0 os := by kernel_rfl
theorem E14 (n : Nat) (x0 : SV) (os : List SO) : callF prg (n + 1) 14 [x0] os = X14 (callF prg n) (n + 1) os.length x0 os := by kernel_rfl
theorem U14 {Q : SV → List SO → Prop} {x0 : SV} {os : List SO} {nl : Nat} (hnl : os.length = nl) (h : Ev (fun n => B14 (callF prg n) (n + 1) nl x0 os) Q) : Ev (fun n => callF prg n 14 [x0] os) Q := by subst hnl; exact ev_fun (fun n => (E14 n _ _).trans (X14_s _ _ _ _ _)) h
theorem X15_s (K : Nat → List SV → List SO → Out) (N nl : Nat) (x0 : SV) (os : List SO) : X15 K N nl x0 os = B15 K N nl x0 os := by kernel_rfl
theorem E15 (n : Nat) (x0 : SV) (os : List SO) : callF prg (n + 1) 15 [x0] os = X15 (callF prg n) (n + 1) os.length x0 os := by kernel_rfl
theorem U15 {Q : SV → List SO → Prop} {x0 : SV} {os : List SO} {nl : Nat} (hnl : os.length = nl) (h : Ev (fun n => B15 (callF prg n) (n + 1) nl x0 os) Q) : Ev (fun n => callF prg n 15 [x0] os) Q := by subst hnl; exact ev_fun (fun n => (E15 n _ _).trans (X15_s _ _ _ _ _)) h
theorem X16_s (K : Nat → List SV → List SO → Out) (N nl : Nat) (x0 x1 : SV) (os : List SO) : X16 K N nl x0 x1 os = B16 K N nl x0 x1 os := by kernel_rfl
theorem E16 (n : Nat) (x0 x1 : SV) (os : List SO) : callF prg (n + 1) 16 [x0, x1] os = X16 (callF prg n) (n + 1) os.length x0 x1 os := by kernel_rfl
theorem U16 {Q : SV → List SO → Prop} {x0 x1 : SV} {os : List SO} {nl : Nat} (hnl : os.length = nl) (h : Ev (fun n => B16 (callF prg n) (n + 1) nl x0 x1 os) Q) : Ev (fun n => callF prg n 16 [x0, x1] os) Q := by subst hnl; exact ev_fun (fun n => (E16 n _ _ _).trans (X16_s _ _ _ _ _ _)) h
theorem X17_s (K : Nat → List SV → List SO → Out) (N nl : Nat) (x0 : SV) (os : List SO) : X17 K N nl x0 os = B17 K N nl x0 os := by kernel_rfl
theorem E17 (n : Nat) (x0 : SV) (os : List SO) : callF prg (n + 1) 17 [x0] os = X17 (callF prg n) (n + 1) os.length x0 os := by kernel_rfl
theorem U17 {Q : SV → List SO → Prop} {x0 : SV} {os : List SO} {nl : Nat} (hnl : os.length = nl) (h : Ev (fun n => B17 (callF prg n) (n + 1) nl x0 os) Q) : Ev (fun n => callF prg n 17 [x0] os) Q := by subst hnl; exact ev_fun (fun n => (E17 n _ _).trans (X17_s _ _ _ _ _)) h
theorem X18_s (K : Nat → List SV → List SO → Out) (N nl : Nat) (x0 x1 : SV) (os : List SO) : X18 K N nl x0 x1 os = B18 K N nl x0 x1 os := by kernel_rfl
theorem E18 (n : Nat) (x0 x1 : SV) (os : List SO) : callF prg (n + 1) 18 [x0, x1] os = X18 (callF prg n) (n + 1) os.length x0 x1 os := by kernel_rfl
theorem U18 {Q : SV → List SO → Prop} {x0 x1 : SV} {os : List SO} {nl : Nat} (hnl : os.length = nl) (h : Ev (fun n => B18 (callF prg n) (n + 1) nl x0 x1 os) Q) : Ev (fun n => callF prg n 18 [x0, x1] os) Q := by subst hnl; exact ev_fun (fun n => (E18 n _ _ _).trans (X18_s _ _ _ _ _ _)) h
theorem X19_s (K : Nat → List SV → List SO → Out) (N nl : Nat) (x0 x1 : SV) (os : List SO) : X19 K N nl x0 x1 os = B19 K N nl x0 x1 os := by kernel_rfl
theorem E19 (n : Nat) (x0 x1 : SV) (os : List SO) : callF prg (n + 1) 19 [x0, x1] os = X19 (callF prg n) (n + 1) os.length x0 x1 os := by kernel_rfl
theorem U19 {Q : SV → List SO → Prop} {x0 x1 : SV} {os : List SO} {nl : Nat} (hnl : os.length = nl) (h : Ev (fun n => B19 (callF prg n) (n + 1) nl x0 x1 os) Q) : Ev (fun n => callF prg n 19 [x0, x1] os) Q := by subst hnl; exact ev_fun (fun n => (E19 n _ _ _).trans (X19_s _ _ _ _ _ _)) h
theorem X20_s (K : Nat → List SV → List SO → Out) (N nl : Nat) (x0 x1 : SV) (os : List SO) : X20 K N nl x0 x1 os = B20 K N nl x0 x1 os := by kernel_rfl
theorem E20 (n : Nat) (x0 x1 : SV) (os : List SO) : callF prg (n + 1) 20 [x0, x1] os = X20 (callF prg n) (n + 1) os.length x0 x1 os := by kernel_rfl
theorem U20 {Q : SV → List SO → Prop} {x0 x1 : SV} {os : List SO} {nl : Nat} (hnl : os.length = nl) (h : Ev (fun n => B20 (callF prg n) (n + 1) nl x0 x1 os) Q) : Ev (fun n => callF prg n 20 [x0, x1] os) Q := by subst hnl; exact ev_fun (fun n => (E20 n _ _ _).trans (X20_s _ _ _ _ _ _)) h
theorem X21_s (K : Nat → List SV → List SO → Out) (N nl : Nat) (x0 : SV) (os : List SO) : X21 K N nl x0 os = B21 K N nl x0 os := by kernel_rfl
theorem E21 (n : Nat) (x0 : SV) (os : List SO) : callF prg (n + 1) 21 [x0] os = X21 (callF prg n) (n + 1) os.length x0 os := by kernel_rfl
theorem U21 {Q : SV → List SO → Prop} {x0 : SV} {os : List SO} {nl : Nat} (hnl : os.length = nl) (h : Ev (fun n => B21 (callF prg n) (n + 1) nl x0 os) Q) : Ev (fun n => callF prg n 21 [x0] os) Q := by subst hnl; exact ev_fun (fun n => (E21 n _ _).trans (X21_s _ _ _ _ _)) h
theorem X22_s (K : Nat → List SV → List SO → Out) (N nl : Nat) (x0 x1 : SV) (os : List SO) : X22 K N nl x0 x1 os = B22 K N nl x0 x1 os := by kernel_rfl
theorem E22 (n : Nat) (x0 x1 : SV) (os : List SO) : callF prg (n + 1) 22 [x0, x1] os = X22 (callF prg n) (n + 1) os.length x0 x1 os := by kernel_rfl
theorem U22 {Q : SV → List SO → Prop} {x0 x1 : SV} {os : List SO} {nl : Nat} (hnl : os.length = nl) (h : Ev (fun n => B22 (callF prg n) (n + 1) nl x0 x1 os) Q) : Ev (fun n => callF prg n 22 [x0, x1] os) Q := by subst hnl; exact ev_fun (fun n => (E22 n _ _ _).trans (X22_s _ _ _ _ _ _)) h
theorem X23_s (K : Nat → List SV → List SO → Out) (N nl : Nat) (x0 x1 : SV) (os : List SO) : X23 K N nl x0 x1 os = B23 K N nl x0 x1 os := by kernel_rfl
theorem E23 (n : Nat) (x0 x1 : SV) (os : List SO) : callF prg (n + 1) 23 [x0, x1] os = X23 (callF prg n) (n + 1) os.length x0 x1 os := by kernel_rfl
theorem U23 {Q : SV → List SO → Prop} {x0 x1 : SV} {os : List SO} {nl : Nat} (hnl : os.length = nl) (h : Ev (fun n => B23 (callF prg n) (n + 1) nl x0 x1 os) Q) : Ev (fun n => callF prg n 23 [x0, x1] os) Q := by subst hnl; exact ev_fun (fun n => (E23 n _ _ _).trans (X23_s _ _ _ _ _ _)) h
theorem X24_s (K : Nat → List SV → List SO → Out) (N nl : Nat) (x0 x1 : SV) (os : List SO) : X24 K N nl x0 x1 os = B24 K N nl x0 x1 os := by kernel_rfl
theorem E24 (n : Nat) (x0 x1 : SV) (os : List SO) : callF prg (n + 1) 24 [x0, x1] os = X24 (callF prg n) (n + 1) os.length x0 x1 os := by kernel_rfl
theorem U24 {Q : SV → List SO → Prop} {x0 x1 : SV} {os : List SO} {nl : Nat} (hnl : os.length = nl) (h : Ev (fun n => B24 (callF prg n) (n + 1) nl x0 x1 os) Q) : Ev (fun n => callF prg n 24 [x0, x1] os) Q := by subst hnl; exact ev_fun (fun n => (E24 n _ _ _).trans (X24_s _ _ _ _ _ _)) h
theorem X25_s (K : Nat → List SV → List SO → Out) (N nl : Nat) (x0 x1 : SV) (os : List SO) : X25 K N nl x0 x1 os = B25 K N nl x0 x1 os := by kernel_rfl
theorem E25 (n : Nat) (x0 x1 : SV) (os : List SO) : callF prg (n + 1) 25 [x0, x1] os = X25 (callF prg n) (n + 1) os.length x0 x1 os := by kernel_rfl
theorem U25 {Q : SV → List SO → Prop} {x0 x1 : SV} {os : List SO} {nl : Nat} (hnl : os.length = nl) (h : Ev (fun n => B25 (callF prg n) (n + 1) nl x0 x1 os) Q) : Ev (fun n => callF prg n 25 [x0, x1] os) Q := by subst hnl; exact ev_fun (fun n => (E25 n _ _ _).trans (X25_s _ _ _ _ _ _)) h
theorem X26_s (K : Nat → List SV → List SO → Out) (N nl : Nat) (x0 x1 : SV) (os : List SO) : X26 K N nl x0 x1 os = B26 K N nl x0 x1 os := by kernel_rfl
theorem E26 (n : Nat) (x0 x1 : SV) (os : List SO) : callF prg (n + 1) 26 [x0, x1] os = X26 (callF prg n) (n + 1) os.length x0 x1 os := by kernel_rfl
theorem U26 {Q : SV → List SO → Prop} {x0 x1 : SV} {os : List SO} {nl : Nat} (hnl : os.length = nl) (h : Ev (fun n => B26 (callF prg n) (n + 1) nl x0 x1 os) Q) : Ev (fun n => callF prg n 26 [x0, x1] os) Q := by subst hnl; exact ev_fun (fun n => (E26 n _ _ _).trans (X26_s _ _ _ _ _ _)) h
theorem J27_4_s (K : Nat → List SV → List SO → Out) (N nl : Nat) (x2 x3 x5 x6 x8 : SV) (os : List SO) : J27_4 K N nl x2 x3 x5 x6 x8 os = JB27_4 K N nl x2 x3 x5 x6 x8 os := by kernel_rfl
theorem UJ27_4 {nl : Nat} {Q : SV → List SO → Prop} {x2 x3 x5 x6 x8 : SV} {os : List SO} (h : Ev (fun n => JB27_4 (callF prg n) (n + 1) nl x2 x3 x5 x6 x8 os) Q) : Ev (fun n => J27_4 (callF prg n) (n + 1) nl x2 x3 x5 x6 x8 os) Q := ev_eq (fun n => J27_4_s _ _ _ _ _ _ _ _ _) h
theorem J27_7_s (K : Nat → List SV → List SO → Out) (N nl : Nat) (x2 x3 x5 x6 x8 x10 : SV) (os : List SO) : J27_7 K N nl x2 x3 x5 x6 x8 x10 os = JB27_7 K N nl x2 x3 x5 x6 x8 x10 os := by kernel_rfl
theorem UJ27_7 {nl : Nat} {Q : SV → List SO → Prop} {x2 x3 x5 x6 x8 x10 : SV} {os : List SO} (h : Ev (fun n => JB27_7 (callF prg n) (n + 1) nl x2 x3 x5 x6 x8 x10 os) Q) : Ev (fun n => J27_7 (callF prg n) (n + 1) nl x2 x3 x5 x6 x8 x10 os) Q := ev_eq (fun n => J27_7_s _ _ _ _ _ _ _ _ _ _) h
theorem X27_s (K : Nat → List SV → List SO → Out) (N nl : Nat) (x0 : SV) (os : List SO) : X27 K N nl x0 os = B27 K N nl x0 os := by kernel_rfl
theorem E27 (n : Nat) (x0 : SV) (os : List SO) : callF prg (n + 1) 27 [x0] os = X27 (callF prg n) (n + 1) os.length x0 os := by kernel_rfl
theorem U27 {Q : SV → List SO → Prop} {x0 : SV} {os : List SO} {nl : Nat} (hnl : os.length = nl) (h : Ev (fun n => B27 (callF prg n) (n + 1) nl x0 os) Q) : Ev (fun n => callF prg n 27 [x0] os) Q := by subst hnl; exact ev_fun (fun n => (E27 n _ _).trans (X27_s _ _ _ _ _)) h
theorem X28_s (K : Nat → List SV → List SO → Out) (N nl : Nat) (x0 x1 x2 : SV) (os : List SO) : X28 K N nl x0 x1 x2 os = B28 K N nl x0 x1 x2 os := by kernel_rfl
theorem E28 (n : Nat) (x0 x1 x2 : SV) (os : List SO) : callF prg (n + 1) 28 [x0, x1, x2] os = X28 (callF prg n) (n + 1) os.length x0 x1 x2 os := by kernel_rfl
theorem U28 {Q : SV → List SO → Prop} {x0 x1 x2 : SV} {os : List SO} {nl : Nat} (hnl : os.length = nl) (h : Ev (fun n => B28 (callF prg n) (n + 1) nl x0 x1 x2 os) Q) : Ev (fun n => callF prg n 28 [x0, x1, x2] os) Q := by subst hnl; exact ev_fun (fun n => (E28 n _ _ _ _).trans (X28_s _ _ _ _ _ _ _)) h
theorem X29_s (K : Nat → List SV → List SO → Out) (N nl : Nat) (x0 x1 x2 : SV) (os : List SO) : X29 K N nl x0 x1 x2 os = B29 K N nl x0 x1 x2 os := by kernel_rfl
theorem E29 (n : Nat) (x0 x1 x2 : SV) (os : List SO) : callF prg (n + 1) 29 [x0, x1, x2] os = X29 (callF prg n) (n + 1) os.length x0 x1 x2 os := by kernel_rfl
theorem U29 {Q : SV → List SO → Prop} {x0 x1 x2 : SV} {os : List SO} {nl : Nat} (hnl : os.length = nl) (h : Ev (fun n => B29 (callF prg n) (n + 1) nl x0 x1 x2 os) Q) : Ev (fun n => callF prg n 29 [x0, x1, x2] os) Q := by subst hnl; exact ev_fun (fun n => (E29 n _ _ _ _).trans (X29_s _ _ _ _ _ _ _)) h
theorem X30_s (K : Nat → List SV → List SO → Out) (N nl : Nat) (x0 : SV) (os : List SO) : X30 K N nl x0 os = B30 K N nl x0 os := by kernel_rfl
theorem E30 (n : Nat) (x0 : SV) (os : List SO) : callF prg (n + 1) 30 [x0] os = X30 (callF prg n) (n + 1) os.length x0 os := by kernel_rfl
theorem U30 {Q : SV → List SO → Prop} {x0 : SV} {os : List SO} {nl : Nat} (hnl : os.length = nl) (h : Ev (fun n => B30 (callF prg n) (n + 1) nl x0 os) Q) : Ev (fun n => callF prg n 30 [x0] os) Q := by subst hnl; exact ev_fun (fun n => (E30 n _ _).trans (X30_s _ _ _ _ _)) h
theorem X31_s (K : Nat → List SV → List SO → Out) (N nl : Nat) (x0 x1 : SV) (os : List SO) : X31 K N nl x0 x1 os = B31 K N nl x0 x1 os := by kernel_rfl
theorem E31 (n : Nat) (x0 x1 : SV) (os : List SO) : callF prg (n + 1) 31 [x0, x1] os = X31 (callF prg n) (n + 1) os.length x0 x1 os := by kernel_rfl
theorem U31 {Q : SV → List SO → Prop} {x0 x1 : SV} {os : List SO} {nl : Nat} (hnl : os.length = nl) (h : Ev (fun n => B31 (callF prg n) (n + 1) nl x0 x1 os) Q) : Ev (fun n => callF prg n 31 [x0, x1] os) Q := by subst hnl; exact ev_fun (fun n => (E31 n _ _ _).trans (X31_s _ _ _ _ _ _)) h
theorem X32_s (K : Nat → List SV → List SO → Out) (N nl : Nat) (x0 x1 : SV) (os : List SO) : X32 K N nl x0 x1 os = B32 K N nl x0 x1 os := by kernel_rfl
theorem E32 (n : Nat) (x0 x1 : SV) (os : List SO) : callF prg (n + 1) 32 [x0, x1] os = X32 (callF prg n) (n + 1) os.length x0 x1 os := by kernel_rfl
theorem U32 {Q : SV → List SO → Prop} {x0 x1 : SV} {os : List SO} {nl : Nat} (hnl : os.length = nl) (h : Ev (fun n => B32 (callF prg n) (n + 1) nl x0 x1 os) Q) : Ev (fun n => callF prg n 32 [x0, x1] os) Q := by subst hnl; exact ev_fun (fun n => (E32 n _ _ _).trans (X32_s _ _ _ _ _ _)) h
theorem X33_s (K : Nat → List SV → List SO → Out) (N nl : Nat) (x0 x1 : SV) (os : List SO) : X33 K N nl x0 x1 os = B33 K N nl x0 x1 os := by kernel_rfl
theorem E33 (n : Nat) (x0 x1 : SV) (os : List SO) : callF prg (n + 1) 33 [x0, x1] os = X33 (callF prg n) (n + 1) os.length x0 x1 os := by kernel_rfl
theorem U33 {Q : SV → List SO → Prop} {x0 x1 : SV} {os : List SO} {nl : Nat} (hnl : os.length = nl) (h : Ev (fun n => B33 (callF prg n) (n + 1) nl x0 x1 os) Q) : Ev (fun n => callF prg n 33 [x0, x1] os) Q := by subst hnl; exact ev_fun (fun n => (E33 n _ _ _).trans (X33_s _ _ _ _ _ _)) h
theorem J34_8_s (K : Nat → List SV → List SO → Out) (N nl : Nat) (x2 x3 x5 x7 x8 : SV) (os : List SO) : J34_8 K N nl x2 x3 x5 x7 x8 os = JB34_8 K N nl x2 x3 x5 x7 x8 os := by kernel_rfl
theorem UJ34_8 {nl : Nat} {Q : SV → List SO → Prop} {x2 x3 x5 x7 x8 : SV} {os : List SO} (h : Ev (fun n => JB34_8 (callF prg n) (n + 1) nl x2 x3 x5 x7 x8 os) Q) : Ev (fun n => J34_8 (callF prg n) (n + 1) nl x2 x3 x5 x7 x8 os) Q := ev_eq (fun n => J34_8_s _ _ _ _ _ _ _ _ _) h
theorem X34_s (K : Nat → List SV → List SO → Out) (N nl : Nat) (x0 : SV) (os : List SO) : X34 K N nl x0 os = B34 K N nl x0 os := by kernel_rfl
theorem E34 (n : Nat) (x0 : SV) (os : List SO) : callF prg (n + 1) 34 [x0] os = X34 (callF prg n) (n + 1) os.length x0 os := by kernel_rfl
theorem U34 {Q : SV → List SO → Prop} {x0 : SV} {os : List SO} {nl : Nat} (hnl : os.length = nl) (h : Ev (fun n => B34 (callF prg n) (n + 1) nl x0 os) Q) : Ev (fun n => callF prg n 34 [x0] os) Q := by subst hnl; exact ev_fun (fun n => (E34 n _ _).trans (X34_s _ _ _ _ _)) h
theorem X35_s (K : Nat → List SV → List SO → Out) (N nl : Nat) (x0 x1 : SV) (os : List SO) : X35 K N nl x0 x1 os = B35 K N nl x0 x1 os := by kernel_rfl
theorem E35 (n : Nat) (x0 x1 : SV) (os : List SO) : callF prg (n + 1) 35 [x0, x1] os = X35 (callF prg n) (n + 1) os.length x0 x1 os := by kernel_rfl
theorem U35 {Q : SV → List SO → Prop} {x0 x1 : SV} {os : List SO} {nl : Nat} (hnl : os.length = nl) (h : Ev (fun n => B35 (callF prg n) (n + 1) nl x0 x1 os) Q) : Ev (fun n => callF prg n 35 [x0, x1] os) Q := by subst hnl; exact ev_fun (fun n => (E35 n _ _ _).trans (X35_s _ _ _ _ _ _)) h
theorem X36_s (K : Nat → List SV → List SO → Out) (N nl : Nat) (x0 x1 : SV) (os : List SO) : X36 K N nl x0 x1 os = B36 K N nl x0 x1 os := by kernel_rfl
theorem E36 (n : Nat) (x0 x1 : SV) (os : List SO) : callF prg (n + 1) 36 [x0, x1] os = X36 (callF prg n) (n + 1) os.length x0 x1 os := by kernel_rfl
theorem U36 {Q : SV → List SO → Prop} {x0 x1 : SV} {os : List SO} {nl : Nat} (hnl : os.length = nl) (h : Ev (fun n => B36 (callF prg n) (n + 1) nl x0 x1 os) Q) : Ev (fun n => callF prg n 36 [x0, x1] os) Q := by subst hnl; exact ev_fun (fun n => (E36 n _ _ _).trans (X36_s _ _ _ _ _ _)) h
theorem X37_s (K : Nat → List SV → List SO → Out) (N nl : Nat) (x0 : SV) (os : List SO) : X37 K N nl x0 os = B37 K N nl x0 os := by kernel_rfl
theorem E37 (n : Nat) (x0 : SV) (os : List SO) : callF prg (n + 1) 37 [x0] os = X37 (callF prg n) (n + 1) os.length x0 os := by kernel_rfl
theorem U37 {Q : SV → List SO → Prop} {x0 : SV} {os : List SO} {nl : Nat} (hnl : os.length = nl) (h : Ev (fun n => B37 (callF prg n) (n + 1) nl x0 os) Q) : Ev (fun n => callF prg n 37 [x0] os) Q := by subst hnl; exact ev_fun (fun n => (E37 n _ _).trans (X37_s _ _ _ _ _)) h
theorem X38_s (K : Nat → List SV → List SO → Out) (N nl : Nat) (x0 x1 : SV) (os : List SO) : X38 K N nl x0 x1 os = B38 K N nl x0 x1 os := by kernel_rfl
theorem E38 (n : Nat) (x0 x1 : SV) (os : List SO) : callF prg (n + 1) 38 [x0, x1] os = X38 (callF prg n) (n + 1) os.length x0 x1 os := by kernel_rfl
theorem U38 {Q : SV → List SO → Prop} {x0 x1 : SV} {os : List SO} {nl : Nat} (hnl : os.length = nl) (h : Ev (fun n => B38 (callF prg n) (n + 1) nl x0 x1 os) Q) : Ev (fun n => callF prg n 38 [x0, x1] os) Q := by subst hnl; exact ev_fun (fun n => (E38 n _ _ _).trans (X38_s _ _ _ _ _ _)) h
theorem X39_s (K : Nat → List SV → List SO → Out) (N nl : Nat) (x0 x1 : SV) (os : List SO) : X39 K N nl x0 x1 os = B39 K N nl x0 x1 os := by kernel_rfl
theorem E39 (n : Nat) (x0 x1 : SV) (os : List SO) : callF prg (n + 1) 39 [x0, x1] os = X39 (callF prg n) (n + 1) os.length x0 x1 os := by kernel_rfl
theorem U39 {Q : SV → List SO → Prop} {x0 x1 : SV} {os : List SO} {nl : Nat} (hnl : os.length = nl) (h : Ev (fun n => B39 (callF prg n) (n + 1) nl x0 x1 os) Q) : Ev (fun n => callF prg n 39 [x0, x1] os) Q := by subst hnl; exact ev_fun (fun n => (E39 n _ _ _).trans (X39_s _ _ _ _ _ _)) h
theorem X40_s (K : Nat → List SV → List SO → Out) (N nl : Nat) (x0 : SV) (os : List SO) : X40 K N nl x0 os = B40 K N nl x0 os := by kernel_rfl
theorem E40 (n : Nat) (x0 : SV) (os : List SO) : callF prg (n + 1) 40 [x0] os = X40 (callF prg n) (n + 1) os.length x0 os := by kernel_rfl
theorem U40 {Q : SV → List SO → Prop} {x0 : SV} {os : List SO} {nl : Nat} (hnl : os.length = nl) (h : Ev (fun n => B40 (callF prg n) (n + 1) nl x0 os) Q) : Ev (fun n => callF prg n 40 [x0] os) Q := by subst hnl; exact ev_fun (fun n => (E40 n _ _).trans (X40_s _ _ _ _ _)) h
theorem X41_s (K : Nat → List SV → List SO → Out) (N nl : Nat) (x0 : SV) (os : List SO) : X41 K N nl x0 os = B41 K N nl x0 os := by kernel_rfl
theorem E41 (n : Nat) (x0 : SV) (os : List SO) : callF prg (n + 1) 41 [x0] os = X41 (callF prg n) (n + 1) os.length x0 os := by kernel_rfl
theorem U41 {Q : SV → List SO → Prop} {x0 : SV} {os : List SO} {nl : Nat} (hnl : os.length = nl) (h : Ev (fun n => B41 (callF prg n) (n + 1) nl x0 os) Q) : Ev (fun n => callF prg n 41 [x0] os) Q := by subst hnl; exact ev_fun (fun n => (E41 n _ _).trans (X41_s _ _ _ _ _)) h
theorem X42_s (K : Nat → List SV → List SO → Out) (N nl : Nat) (x0 x1 : SV) (os : List SO) : X42 K N nl x0 x1 os = B42 K N nl x0 x1 os := by kernel_rfl
theorem E42 (n : Nat) (x0 x1 : SV) (os : List SO) : callF prg (n + 1) 42 [x0, x1] os = X42 (callF prg n) (n + 1) os.length x0 x1 os := by kernel_rfl
theorem U42 {Q : SV → List SO → Prop} {x0 x1 : SV} {os : List SO} {nl : Nat} (hnl : os.length = nl) (h : Ev (fun n => B42 (callF prg n) (n + 1) nl x0 x1 os) Q) : Ev (fun n => callF prg n 42 [x0, x1] os) Q := by subst hnl; exact ev_fun (fun n => (E42 n _ _ _).trans (X42_s _ _ _ _ _ _)) h
theorem X43_s (K : Nat → List SV → List SO → Out) (N nl : Nat) (x0 x1 : SV) (os : List SO) : X43 K N nl x0 x1 os = B43 K N nl x0 x1 os := by kernel_rfl
theorem E43 (n : Nat) (x0 x1 : SV) (os : List SO) : callF prg (n + 1) 43 [x0, x1] os = X43 (callF prg n) (n + 1) os.length x0 x1 os := by kernel_rfl
theorem U43 {Q : SV → List SO → Prop} {x0 x1 : SV} {os : List SO} {nl : Nat} (hnl : os.length = nl) (h : Ev (fun n => B43 (callF prg n) (n + 1) nl x0 x1 os) Q) : Ev (fun n => callF prg n 43 [x0, x1] os) Q := by subst hnl; exact ev_fun (fun n => (E43 n _ _ _).trans (X43_s _ _ _ _ _ _)) h
theorem X44_s (K : Nat → List SV → List SO → Out) (N nl : Nat) (x0 x1 : SV) (os : List SO) : X44 K N nl x0 x1 os = B44 K N nl x0 x1 os := by kernel_rfl
theorem E44 (n : Nat) (x0 x1 : SV) (os : List SO) : callF prg (n + 1) 44 [x0, x1] os = X44 (callF prg n) (n + 1) os.length x0 x1 os := by kernel_rfl
theorem U44 {Q : SV → List SO → Prop} {x0 x1 : SV} {os : List SO} {nl : Nat} (hnl : os.length = nl) (h : Ev (fun n => B44 (callF prg n) (n + 1) nl x0 x1 os) Q) : Ev (fun n => callF prg n 44 [x0, x1] os) Q := by subst hnl; exact ev_fun (fun n => (E44 n _ _ _).trans (X44_s _ _ _ _ _ _)) h
theorem X45_s (K : Nat → List SV → List SO → Out) (N nl : Nat) (x0 : SV) (os : List SO) : X45 K N nl x0 os = B45 K N nl x0 os := by kernel_rfl
theorem E45 (n : Nat) (x0 : SV) (os : List SO) : callF prg (n + 1) 45 [x0] os = X45 (callF prg n) (n + 1) os.length x0 os := by kernel_rfl
theorem U45 {Q : SV → List SO → Prop} {x0 : SV} {os : List SO} {nl : Nat} (hnl : os.length = nl) (h : Ev (fun n => B45 (callF prg n) (n + 1) nl x0 os) Q) : Ev (fun n => callF prg n 45 [x0] os) Q := by subst hnl; exact ev_fun (fun n => (E45 n _ _).trans (X45_s _ _ _ _ _)) h
theorem X46_s (K : Nat → List SV → List SO → Out) (N nl : Nat) (x0 x1 : SV) (os : List SO) : X46 K N nl x0 x1 os = B46 K N nl x0 x1 os := by kernel_rfl
theorem E46 (n : Nat) (x0 x1 : SV) (os : List SO) : callF prg (n + 1) 46 [x0, x1] os = X46 (callF prg n) (n + 1) os.length x0 x1 os := by kernel_rfl
theorem U46 {Q : SV → List SO → Prop} {x0 x1 : SV} {os : List SO} {nl : Nat} (hnl : os.length = nl) (h : Ev (fun n => B46 (callF prg n) (n + 1) nl x0 x1 os) Q) : Ev (fun n => callF prg n 46 [x0, x1] os) Q := by subst hnl; exact ev_fun (fun n => (E46 n _ _ _).trans (X46_s _ _ _ _ _ _)) h
theorem X47_s (K : Nat → List SV → List SO → Out) (N nl : Nat) (x0 x1 : SV) (os : List SO) : X47 K N nl x0 x1 os = B47 K N nl x0 x1 os := by kernel_rfl
theorem E47 (n : Nat) (x0 x1 : SV) (os : List SO) : callF prg (n + 1) 47 [x0, x1] os = X47 (callF prg n) (n + 1) os.length x0 x1 os := by kernel_rfl
theorem U47 {Q : SV → List SO → Prop} {x0 x1 : SV} {os : List SO} {nl : Nat} (hnl : os.length = nl) (h : Ev (fun n => B47 (callF prg n) (n + 1) nl x0 x1 os) Q) : Ev (fun n => callF prg n 47 [x0, x1] os) Q := by subst hnl; exact ev_fun (fun n => (E47 n _ _ _).trans (X47_s _ _ _ _ _ _)) h
theorem J48_4_s (K : Nat → List SV → List SO → Out) (N nl : Nat) (x0 x2 x3 : SV) (os : List SO) : J48_4 K N nl x0 x2 x3 os = JB48_4 K N nl x0 x2 x3 os := by kernel_rfl
theorem UJ48_4 {nl : Nat} {Q : SV → List SO → Prop} {x0 x2 x3 : SV} {os : List SO} (h : Ev (fun n => JB48_4 (callF prg n) (n + 1) nl x0 x2 x3 os) Q) : Ev (fun n => J48_4 (callF prg n) (n + 1) nl x0 x2 x3 os) Q := ev_eq (fun n => J48_4_s _ _ _ _ _ _ _) h
theorem J48_10_s (K : Nat → List SV → List SO → Out) (N nl : Nat) (x2 x4 : SV) (os : List SO) : J48_10 K N nl x2 x4 os = JB48_10 K N nl x2 x4 os := by kernel_rfl
theorem UJ48_10 {nl : Nat} {Q : SV → List SO → Prop} {x2 x4 : SV} {os : List SO} (h : Ev (fun n => JB48_10 (callF prg n) (n + 1) nl x2 x4 os) Q) : Ev (fun n => J48_10 (callF prg n) (n + 1) nl x2 x4 os) Q := ev_eq (fun n => J48_10_s _ _ _ _ _ _) h
theorem X48_s (K : Nat → List SV → List SO → Out) (N nl : Nat) (x0 : SV) (os : List SO) : X48 K N nl x0 os = B48 K N nl x0 os := by kernel_rfl
theorem E48 (n : Nat) (x0 : SV) (os : List SO) : callF prg (n + 1) 48 [x0] os = X48 (callF prg n) (n + 1) os.length x0 os := by kernel_rfl
theorem U48 {Q : SV → List SO → Prop} {x0 : SV} {os : List SO} {nl : Nat} (hnl : os.length = nl) (h : Ev (fun n => B48 (callF prg n) (n + 1) nl x0 os) Q) : Ev (fun n => callF prg n 48 [x0] os) Q := by subst hnl; exact ev_fun (fun n => (E48 n _ _).trans (X48_s _ _ _ _ _)) h
theorem J49_3_s (K : Nat → List SV → List SO → Out) (N nl : Nat) (x0 : SV) (os : List SO) : J49_3 K N nl x0 os = JB49_3 K N nl x0 os := by kernel_rfl
theorem UJ49_3 {nl : Nat} {Q : SV → List SO → Prop} {x0 : SV} {os : List SO} (h : Ev (fun n => JB49_3 (callF prg n) (n + 1) nl x0 os) Q) : Ev (fun n => J49_3 (callF prg n) (n + 1) nl x0 os) Q := ev_eq (fun n => J49_3_s _ _ _ _ _) h
theorem X49_s (K : Nat → List SV → List SO → Out) (N nl : Nat) (x0 : SV) (os : List SO) : X49 K N nl x0 os = B49 K N nl x0 os := by kernel_rfl
theorem E49 (n : Nat) (x0 : SV) (os : List SO) : callF prg (n + 1) 49 [x0] os = X49 (callF prg n) (n + 1) os.length x0 os := by kernel_rfl
theorem U49 {Q : SV → List SO → Prop} {x0 : SV} {os : List SO} {nl : Nat} (hnl : os.length = nl) (h : Ev (fun n => B49 (callF prg n) (n + 1) nl x0 os) Q) : Ev (fun n => callF prg n 49 [x0] os) Q := by subst hnl; exact ev_fun (fun n => (E49 n _ _).trans (X49_s _ _ _ _ _)) h
theorem X50_s (K : Nat → List SV → List SO → Out) (N nl : Nat) (x0 : SV) (os : List SO) : X50 K N nl x0 os = B50 K N nl x0 os := by kernel_rfl
theorem E50 (n : Nat) (x0 : SV) (os : List SO) : callF prg (n + 1) 50 [x0] os = X50 (callF prg n) (n + 1) os.length x0 os := by kernel_rfl
theorem U50 {Q : SV → List SO → Prop} {x0 : SV} {os : List SO} {nl : Nat} (hnl : os.length = nl) (h : Ev (fun n => B50 (callF prg n) (n + 1) nl x0 os) Q) : Ev (fun n => callF prg n 50 [x0] os) Q := by subst hnl; exact ev_fun (fun n => (E50 n _ _).trans (X50_s _ _ _ _ _)) h
theorem X51_s (K : Nat → List SV → List SO → Out) (N nl : Nat) (x0 : SV) (os : List SO) : X51 K N nl x0 os = B51 K N nl x0 os := by kernel_rfl
theorem E51 (n : Nat) (x0 : SV) (os : List SO) : callF prg (n + 1) 51 [x0] os = X51 (callF prg n) (n + 1) os.length x0 os := by kernel_rfl
theorem U51 {Q : SV → List SO → Prop} {x0 : SV} {os : List SO} {nl : Nat} (hnl : os.length = nl) (h : Ev (fun n => B51 (callF prg n) (n + 1) nl x0 os) Q) : Ev (fun n => callF prg n 51 [x0] os) Q := by subst hnl; exact ev_fun (fun n => (E51 n _ _).trans (X51_s _ _ _ _ _)) h
theorem X52_s (K : Nat → List SV → List SO → Out) (N nl : Nat) (x0 : SV) (os : List SO) : X52 K N nl x0 os = B52 K N nl x0 os := by kernel_rfl
theorem E52 (n : Nat) (x0 : SV) (os : List SO) : callF prg (n + 1) 52 [x0] os = X52 (callF prg n) (n + 1) os.length x0 os := by kernel_rfl
theorem U52 {Q : SV → List SO → Prop} {x0 : SV} {os : List SO} {nl : Nat} (hnl : os.length = nl) (h : Ev (fun n => B52 (callF prg n) (n + 1) nl x0 os) Q) : Ev (fun n => callF prg n 52 [x0] os) Q := by subst hnl; exact ev_fun (fun n => (E52 n _ _).trans (X52_s _ _ _ _ _)) h
theorem L53_2_s (K : Nat → List SV → List SO → Out) (N nl : Nat) (m2 : Nat) (x1 x6 x7 x8 : SV) (os : List SO) : L53_2 K N nl (m2 + 1) x1 x6 x7 x8 os = gcB nl [x1, x6, x7, x8] os fun xs os => G53_2 K N nl m2 xs os := by kernel_rfl
theorem UL53_2 {nl c : Nat} {Q : SV → List SO → Prop} {x1 x6 x7 x8 : SV} {os : List SO} (h : Ev (fun n => gcB nl [x1, x6, x7, x8] os fun xs os => G53_2 (callF prg n) (n + 1) nl (n + 1 - (c + 1)) xs os) Q) : Ev (fun n => L53_2 (callF prg n) (n + 1) nl (n + 1 - c) x1 x6 x7 x8 os) Q := ev_loop (L := fun n m => L53_2 (callF prg n) (n + 1) nl m x1 x6 x7 x8 os) (fun n m => L53_2_s _ _ _ _ _ _ _ _ _) h
theorem VL53_2 {nl : Nat} {Q : SV → List SO → Prop} {x1 x6 x7 x8 : SV} {os : List SO} (h : Ev (fun n => gcB nl [x1, x6, x7, x8] os fun xs os => G53_2 (callF prg n) (n + 1) nl (n + 1 - 1) xs os) Q) : Ev (fun n => L53_2 (callF prg n) (n + 1) nl (n + 1) x1 x6 x7 x8 os) Q := UL53_2 (c := 0) h
theorem G53_2_s (K : Nat → List SV → List SO → Out) (N nl : Nat) (m2 : Nat) (x1 x6 x7 x8 : SV) (os : List SO) : G53_2 K N nl m2 [x1, x6, x7, x8] os = GB53_2 K N nl m2 x1 x6 x7 x8 os := by kernel_rfl
theorem UG53_2 {nl : Nat} {Q : SV → List SO → Prop} (m2 : Nat → Nat) {x1 x6 x7 x8 : SV} {os : List SO} (h : Ev (fun n => GB53_2 (callF prg n) (n + 1) nl (m2 n) x1 x6 x7 x8 os) Q) : Ev (fun n => G53_2 (callF prg n) (n + 1) nl (m2 n) [x1, x6, x7, x8] os) Q := ev_eq (fun n => G53_2_s _ _ _ _ _ _ _ _ _) h
theorem X53_s (K : Nat → List SV → List SO → Out) (N nl : Nat) (x0 : SV) (os : List SO) : X53 K N nl x0 os = B53 K N nl x0 os := by kernel_rfl
theorem E53 (n : Nat) (x0 : SV) (os : List SO) : callF prg (n + 1) 53 [x0] os = X53 (callF prg n) (n + 1) os.length x0 os := by kernel_rfl
theorem U53 {Q : SV → List SO → Prop} {x0 : SV} {os : List SO} {nl : Nat} (hnl : os.length = nl) (h : Ev (fun n => B53 (callF prg n) (n + 1) nl x0 os) Q) : Ev (fun n => callF prg n 53 [x0] os) Q := by subst hnl; exact ev_fun (fun n => (E53 n _ _).trans (X53_s _ _ _ _ _)) h
theorem X54_s (K : Nat → List SV → List SO → Out) (N nl : Nat) (x0 x1 : SV) (os : List SO) : X54 K N nl x0 x1 os = B54 K N nl x0 x1 os := by kernel_rfl
theorem E54 (n : Nat) (x0 x1 : SV) (os : List SO) : callF prg (n + 1) 54 [x0, x1] os = X54 (callF prg n) (n + 1) os.length x0 x1 os := by kernel_rfl
theorem U54 {Q : SV → List SO → Prop} {x0 x1 : SV} {os : List SO} {nl : Nat} (hnl : os.length = nl) (h : Ev (fun n => B54 (callF prg n) (n + 1) nl x0 x1 os) Q) : Ev (fun n => callF prg n 54 [x0, x1] os) Q := by subst hnl; exact ev_fun (fun n => (E54 n _ _ _).trans (X54_s _ _ _ _ _ _)) h
theorem L55_4_s (K : Nat → List SV → List SO → Out) (N nl : Nat) (m4 : Nat) (x0 x1 x5 : SV) (os : List SO) : L55_4 K N nl (m4 + 1) x0 x1 x5 os = LB55_4 K N nl m4 x0 x1 x5 os := by kernel_rfl
theorem UL55_4 {nl c : Nat} {Q : SV → List SO → Prop} {x0 x1 x5 : SV} {os : List SO} (h : Ev (fun n => LB55_4 (callF prg n) (n + 1) nl (n + 1 - (c + 1)) x0 x1 x5 os) Q) : Ev (fun n => L55_4 (callF prg n) (n + 1) nl (n + 1 - c) x0 x1 x5 os) Q := ev_loop (L := fun n m => L55_4 (callF prg n) (n + 1) nl m x0 x1 x5 os) (fun n m => L55_4_s _ _ _ _ _ _ _ _) h
theorem VL55_4 {nl : Nat} {Q : SV → List SO → Prop} {x0 x1 x5 : SV} {os : List SO} (h : Ev (fun n => LB55_4 (callF prg n) (n + 1) nl (n + 1 - 1) x0 x1 x5 os) Q) : Ev (fun n => L55_4 (callF prg n) (n + 1) nl (n + 1) x0 x1 x5 os) Q := UL55_4 (c := 0) h
theorem X55_s (K : Nat → List SV → List SO → Out) (N nl : Nat) (x0 x1 : SV) (os : List SO) : X55 K N nl x0 x1 os = B55 K N nl x0 x1 os := by kernel_rfl
theorem E55 (n : Nat) (x0 x1 : SV) (os : List SO) : callF prg (n + 1) 55 [x0, x1] os = X55 (callF prg n) (n + 1) os.length x0 x1 os := by kernel_rfl
theorem U55 {Q : SV → List SO → Prop} {x0 x1 : SV} {os : List SO} {nl : Nat} (hnl : os.length = nl) (h : Ev (fun n => B55 (callF prg n) (n + 1) nl x0 x1 os) Q) : Ev (fun n => callF prg n 55 [x0, x1] os) Q := by subst hnl; exact ev_fun (fun n => (E55 n _ _ _).trans (X55_s _ _ _ _ _ _)) h
theorem X56_s (K : Nat → List SV → List SO → Out) (N nl : Nat) (x0 x1 x2 : SV) (os : List SO) : X56 K N nl x0 x1 x2 os = B56 K N nl x0 x1 x2 os := by kernel_rfl
theorem E56 (n : Nat) (x0 x1 x2 : SV) (os : List SO) : callF prg (n + 1) 56 [x0, x1, x2] os = X56 (callF prg n) (n + 1) os.length x0 x1 x2 os := by kernel_rfl
theorem U56 {Q : SV → List SO → Prop} {x0 x1 x2 : SV} {os : List SO} {nl : Nat} (hnl : os.length = nl) (h : Ev (fun n => B56 (callF prg n) (n + 1) nl x0 x1 x2 os) Q) : Ev (fun n => callF prg n 56 [x0, x1, x2] os) Q := by subst hnl; exact ev_fun (fun n => (E56 n _ _ _ _).trans (X56_s _ _ _ _ _ _ _)) h
theorem X57_s (K : Nat → List SV → List SO → Out) (N nl : Nat) (x0 x1 : SV) (os : List SO) : X57 K N nl x0 x1 os = B57 K N nl x0 x1 os := by kernel_rfl
theorem E57 (n : Nat) (x0 x1 : SV) (os : List SO) : callF prg (n + 1) 57 [x0, x1] os = X57 (callF prg n) (n + 1) os.length x0 x1 os := by kernel_rfl
theorem U57 {Q : SV → List SO → Prop} {x0 x1 : SV} {os : List SO} {nl : Nat} (hnl : os.length = nl) (h : Ev (fun n => B57 (callF prg n) (n + 1) nl x0 x1 os) Q) : Ev (fun n => callF prg n 57 [x0, x1] os) Q := by subst hnl; exact ev_fun (fun n => (E57 n _ _ _).trans (X57_s _ _ _ _ _ _)) h
theorem L58_3_s (K : Nat → List SV → List SO → Out) (N nl : Nat) (m3 : Nat) (x0 x3 x4 : SV) (os : List SO) : L58_3 K N nl (m3 + 1) x0 x3 x4 os = LB58_3 K N nl m3 x0 x3 x4 os := by kernel_rfl
theorem UL58_3 {nl c : Nat} {Q : SV → List SO → Prop} {x0 x3 x4 : SV} {os : List SO} (h : Ev (fun n => LB58_3 (callF prg n) (n + 1) nl (n + 1 - (c + 1)) x0 x3 x4 os) Q) : Ev (fun n => L58_3 (callF prg n) (n + 1) nl (n + 1 - c) x0 x3 x4 os) Q := ev_loop (L := fun n m => L58_3 (callF prg n) (n + 1) nl m x0 x3 x4 os) (fun n m => L58_3_s _ _ _ _ _ _ _ _) h
theorem VL58_3 {nl : Nat} {Q : SV → List SO → Prop} {x0 x3 x4 : SV} {os : List SO} (h : Ev (fun n => LB58_3 (callF prg n) (n + 1) nl (n + 1 - 1) x0 x3 x4 os) Q) : Ev (fun n => L58_3 (callF prg n) (n + 1) nl (n + 1) x0 x3 x4 os) Q := UL58_3 (c := 0) h
theorem X58_s (K : Nat → List SV → List SO → Out) (N nl : Nat) (x0 : SV) (os : List SO) : X58 K N nl x0 os = B58 K N nl x0 os := by kernel_rfl
theorem E58 (n : Nat) (x0 : SV) (os : List SO) : callF prg (n + 1) 58 [x0] os = X58 (callF prg n) (n + 1) os.length x0 os := by kernel_rfl
theorem U58 {Q : SV → List SO → Prop} {x0 : SV} {os : List SO} {nl : Nat} (hnl : os.length = nl) (h : Ev (fun n => B58 (callF prg n) (n + 1) nl x0 os) Q) : Ev (fun n => callF prg n 58 [x0] os) Q := by subst hnl; exact ev_fun (fun n => (E58 n _ _).trans (X58_s _ _ _ _ _)) h
theorem X59_s (K : Nat → List SV → List SO → Out) (N nl : Nat) (x0 x1 : SV) (os : List SO) : X59 K N nl x0 x1 os = B59 K N nl x0 x1 os := by kernel_rfl
theorem E59 (n : Nat) (x0 x1 : SV) (os : List SO) : callF prg (n + 1) 59 [x0, x1] os = X59 (callF prg n) (n + 1) os.length x0 x1 os := by kernel_rfl
theorem U59 {Q : SV → List SO → Prop} {x0 x1 : SV} {os : List SO} {nl : Nat} (hnl : os.length = nl) (h : Ev (fun n => B59 (callF prg n) (n + 1) nl x0 x1 os) Q) : Ev (fun n => callF prg n 59 [x0, x1] os) Q := by subst hnl; exact ev_fun (fun n => (E59 n _ _ _).trans (X59_s _ _ _ _ _ _)) h
theorem L60_4_s (K : Nat → List SV → List SO → Out) (N nl : Nat) (m4 : Nat) (x0 x1 x5 : SV) (os : List SO) : L60_4 K N nl (m4 + 1) x0 x1 x5 os = LB60_4 K N nl m4 x0 x1 x5 os := by kernel_rfl
theorem UL60_4 {nl c : Nat} {Q : SV → List SO → Prop} {x0 x1 x5 : SV} {os : List SO} (h : Ev (fun n => LB60_4 (callF prg n) (n + 1) nl (n + 1 - (c + 1)) x0 x1 x5 os) Q) : Ev (fun n => L60_4 (callF prg n) (n + 1) nl (n + 1 - c) x0 x1 x5 os) Q := ev_loop (L := fun n m => L60_4 (callF prg n) (n + 1) nl m x0 x1 x5 os) (fun n m => L60_4_s _ _ _ _ _ _ _ _) h
theorem VL60_4 {nl : Nat} {Q : SV → List SO → Prop} {x0 x1 x5 : SV} {os : List SO} (h : Ev (fun n => LB60_4 (callF prg n) (n + 1) nl (n + 1 - 1) x0 x1 x5 os) Q) : Ev (fun n => L60_4 (callF prg n) (n + 1) nl (n + 1) x0 x1 x5 os) Q := UL60_4 (c := 0) h
theorem X60_s (K : Nat → List SV → List SO → Out) (N nl : Nat) (x0 x1 : SV) (os : List SO) : X60 K N nl x0 x1 os = B60 K N nl x0 x1 os := by kernel_rfl
theorem E60 (n : Nat) (x0 x1 : SV) (os : List SO) : callF prg (n + 1) 60 [x0, x1] os = X60 (callF prg n) (n + 1) os.length x0 x1 os := by kernel_rfl
theorem U60 {Q : SV → List SO → Prop} {x0 x1 : SV} {os : List SO} {nl : Nat} (hnl : os.length = nl) (h : Ev (fun n => B60 (callF prg n) (n + 1) nl x0 x1 os) Q) : Ev (fun n => callF prg n 60 [x0, x1] os) Q := by subst hnl; exact ev_fun (fun n => (E60 n _ _ _).trans (X60_s _ _ _ _ _ _)) h
theorem L61_2_s (K : Nat → List SV → List SO → Out) (N nl : Nat) (m2 : Nat) (x0 x1 x5 : SV) (os : List SO) : L61_2 K N nl (m2 + 1) x0 x1 x5 os = LB61_2 K N nl m2 x0 x1 x5 os := by kernel_rfl
theorem UL61_2 {nl c : Nat} {Q : SV → List SO → Prop} {x0 x1 x5 : SV} {os : List SO} (h : Ev (fun n => LB61_2 (callF prg n) (n + 1) nl (n + 1 - (c + 1)) x0 x1 x5 os) Q) : Ev (fun n => L61_2 (callF prg n) (n + 1) nl (n + 1 - c) x0 x1 x5 os) Q := ev_loop (L := fun n m => L61_2 (callF prg n) (n + 1) nl m x0 x1 x5 os) (fun n m => L61_2_s _ _ _ _ _ _ _ _) h
theorem VL61_2 {nl : Nat} {Q : SV → List SO → Prop} {x0 x1 x5 : SV} {os : List SO} (h : Ev (fun n => LB61_2 (callF prg n) (n + 1) nl (n + 1 - 1) x0 x1 x5 os) Q) : Ev (fun n => L61_2 (callF prg n) (n + 1) nl (n + 1) x0 x1 x5 os) Q := UL61_2 (c := 0) h
theorem X61_s (K : Nat → List SV → List SO → Out) (N nl : Nat) (x0 x1 : SV) (os : List SO) : X61 K N nl x0 x1 os = B61 K N nl x0 x1 os := by kernel_rfl
theorem E61 (n : Nat) (x0 x1 : SV) (os : List SO) : callF prg (n + 1) 61 [x0, x1] os = X61 (callF prg n) (n + 1) os.length x0 x1 os := by kernel_rfl
theorem U61 {Q : SV → List SO → Prop} {x0 x1 : SV} {os : List SO} {nl : Nat} (hnl : os.length = nl) (h : Ev (fun n => B61 (callF prg n) (n + 1) nl x0 x1 os) Q) : Ev (fun n => callF prg n 61 [x0, x1] os) Q := by subst hnl; exact ev_fun (fun n => (E61 n _ _ _).trans (X61_s _ _ _ _ _ _)) h
theorem X62_s (K : Nat → List SV → List SO → Out) (N nl : Nat) (x0 x1 : SV) (os : List SO) : X62 K N nl x0 x1 os = B62 K N nl x0 x1 os := by kernel_rfl
theorem E62 (n : Nat) (x0 x1 : SV) (os : List SO) : callF prg (n + 1) 62 [x0, x1] os = X62 (callF prg n) (n + 1) os.length x0 x1 os := by kernel_rfl
theorem U62 {Q : SV → List SO → Prop} {x0 x1 : SV} {os : List SO} {nl : Nat} (hnl : os.length = nl) (h : Ev (fun n => B62 (callF prg n) (n + 1) nl x0 x1 os) Q) : Ev (fun n => callF prg n 62 [x0, x1] os) Q := by subst hnl; exact ev_fun (fun n => (E62 n _ _ _).trans (X62_s _ _ _ _ _ _)) h
theorem X63_s (K : Nat → List SV → List SO → Out) (N nl : Nat) (x0 x1 : SV) (os : List SO) : X63 K N nl x0 x1 os = B63 K N nl x0 x1 os := by kernel_rfl
theorem E63 (n : Nat) (x0 x1 : SV) (os : List SO) : callF prg (n + 1) 63 [x0, x1] os = X63 (callF prg n) (n + 1) os.length x0 x1 os := by kernel_rfl
theorem U63 {Q : SV → List SO → Prop} {x0 x1 : SV} {os : List SO} {nl : Nat} (hnl : os.length = nl) (h : Ev (fun n => B63 (callF prg n) (n + 1) nl x0 x1 os) Q) : Ev (fun n => callF prg n 63 [x0, x1] os) Q := by subst hnl; exact ev_fun (fun n => (E63 n _ _ _).trans (X63_s _ _ _ _ _ _)) h
theorem X64_s (K : Nat → List SV → List SO → Out) (N nl : Nat) (x0 x1 : SV) (os : List SO) : X64 K N nl x0 x1 os = B64 K N nl x0 x1 os := by kernel_rfl
theorem E64 (n : Nat) (x0 x1 : SV) (os : List SO) : callF prg (n + 1) 64 [x0, x1] os = X64 (callF prg n) (n + 1) os.length x0 x1 os := by kernel_rfl
theorem U64 {Q : SV → List SO → Prop} {x0 x1 : SV} {os : List SO} {nl : Nat} (hnl : os.length = nl) (h : Ev (fun n => B64 (callF prg n) (n + 1) nl x0 x1 os) Q) : Ev (fun n => callF prg n 64 [x0, x1] os) Q := by subst hnl; exact ev_fun (fun n => (E64 n _ _ _).trans (X64_s _ _ _ _ _ _)) h
theorem J65_6_s (K : Nat → List SV → List SO → Out) (N nl : Nat) (x0 x2 x4 x5 : SV) (os : List SO) : J65_6 K N nl x0 x2 x4 x5 os = JB65_6 K N nl x0 x2 x4 x5 os := by kernel_rfl
theorem UJ65_6 {nl : Nat} {Q : SV → List SO → Prop} {x0 x2 x4 x5 : SV} {os : List SO} (h : Ev (fun n => JB65_6 (callF prg n) (n + 1) nl x0 x2 x4 x5 os) Q) : Ev (fun n => J65_6 (callF prg n) (n + 1) nl x0 x2 x4 x5 os) Q := ev_eq (fun n => J65_6_s _ _ _ _ _ _ _ _) h
theorem J65_11_s (K : Nat → List SV → List SO → Out) (N nl : Nat) (x2 x4 x5 : SV) (os : List SO) : J65_11 K N nl x2 x4 x5 os = JB65_11 K N nl x2 x4 x5 os := by kernel_rfl
theorem UJ65_11 {nl : Nat} {Q : SV → List SO → Prop} {x2 x4 x5 : SV} {os : List SO} (h : Ev (fun n => JB65_11 (callF prg n) (n + 1) nl x2 x4 x5 os) Q) : Ev (fun n => J65_11 (callF prg n) (n + 1) nl x2 x4 x5 os) Q := ev_eq (fun n => J65_11_s _ _ _ _ _ _ _) h
theorem X65_s (K : Nat → List SV → List SO → Out) (N nl : Nat) (x0 : SV) (os : List SO) : X65 K N nl x0 os = B65 K N nl x0 os := by kernel_rfl
theorem E65 (n : Nat) (x0 : SV) (os : List SO) : callF prg (n + 1) 65 [x0] os = X65 (callF prg n) (n + 1) os.length x0 os := by kernel_rfl
theorem U65 {Q : SV → List SO → Prop} {x0 : SV} {os : List SO} {nl : Nat} (hnl : os.length = nl) (h : Ev (fun n => B65 (callF prg n) (n + 1) nl x0 os) Q) : Ev (fun n => callF prg n 65 [x0] os) Q := by subst hnl; exact ev_fun (fun n => (E65 n _ _).trans (X65_s _ _ _ _ _)) h
theorem L66_5_s (K : Nat → List SV → List SO → Out) (N nl : Nat) (m5 : Nat) (x2 x6 x8 x9 : SV) (os : List SO) : L66_5 K N nl (m5 + 1) x2 x6 x8 x9 os = gcB nl [x2, x6, x8, x9] os fun xs os => G66_5 K N nl m5 xs os := by kernel_rfl
theorem UL66_5 {nl c : Nat} {Q : SV → List SO → Prop} {x2 x6 x8 x9 : SV} {os : List SO} (h : Ev (fun n => gcB nl [x2, x6, x8, x9] os fun xs os => G66_5 (callF prg n) (n + 1) nl (n + 1 - (c + 1)) xs os) Q) : Ev (fun n => L66_5 (callF prg n) (n + 1) nl (n + 1 - c) x2 x6 x8 x9 os) Q := ev_loop (L := fun n m => L66_5 (callF prg n) (n + 1) nl m x2 x6 x8 x9 os) (fun n m => L66_5_s _ _ _ _ _ _ _ _ _) h
theorem VL66_5 {nl : Nat} {Q : SV → List SO → Prop} {x2 x6 x8 x9 : SV} {os : List SO} (h : Ev (fun n => gcB nl [x2, x6, x8, x9] os fun xs os => G66_5 (callF prg n) (n + 1) nl (n + 1 - 1) xs os) Q) : Ev (fun n => L66_5 (callF prg n) (n + 1) nl (n + 1) x2 x6 x8 x9 os) Q := UL66_5 (c := 0) h
theorem G66_5_s (K : Nat → List SV → List SO → Out) (N nl : Nat) (m5 : Nat) (x2 x6 x8 x9 : SV) (os : List SO) : G66_5 K N nl m5 [x2, x6, x8, x9] os = GB66_5 K N nl m5 x2 x6 x8 x9 os := by kernel_rfl
theorem UG66_5 {nl : Nat} {Q : SV → List SO → Prop} (m5 : Nat → Nat) {x2 x6 x8 x9 : SV} {os : List SO} (h : Ev (fun n => GB66_5 (callF prg n) (n + 1) nl (m5 n) x2 x6 x8 x9 os) Q) : Ev (fun n => G66_5 (callF prg n) (n + 1) nl (m5 n) [x2, x6, x8, x9] os) Q := ev_eq (fun n => G66_5_s _ _ _ _ _ _ _ _ _) h
theorem J66_6_s (K : Nat → List SV → List SO → Out) (N nl : Nat) (m5 : Nat) (x2 x6 x8 x9 : SV) (os : List SO) : J66_6 K N nl m5 x2 x6 x8 x9 os = JB66_6 K N nl m5 x2 x6 x8 x9 os := by kernel_rfl
theorem UJ66_6 {nl : Nat} {Q : SV → List SO → Prop} {m5 : Nat → Nat} {x2 x6 x8 x9 : SV} {os : List SO} (h : Ev (fun n => JB66_6 (callF prg n) (n + 1) nl (m5 n) x2 x6 x8 x9 os) Q) : Ev (fun n => J66_6 (callF prg n) (n + 1) nl (m5 n) x2 x6 x8 x9 os) Q := ev_eq (fun n => J66_6_s _ _ _ _ _ _ _ _ _) h
theorem X66_s (K : Nat → List SV → List SO → Out) (N nl : Nat) (x0 x1 x2 : SV) (os : List SO) : X66 K N nl x0 x1 x2 os = B66 K N nl x0 x1 x2 os := by kernel_rfl
theorem E66 (n : Nat) (x0 x1 x2 : SV) (os : List SO) : callF prg (n + 1) 66 [x0, x1, x2] os = X66 (callF prg n) (n + 1) os.length x0 x1 x2 os := by kernel_rfl
theorem U66 {Q : SV → List SO → Prop} {x0 x1 x2 : SV} {os : List SO} {nl : Nat} (hnl : os.length = nl) (h : Ev (fun n => B66 (callF prg n) (n + 1) nl x0 x1 x2 os) Q) : Ev (fun n => callF prg n 66 [x0, x1, x2] os) Q := by subst hnl; exact ev_fun (fun n => (E66 n _ _ _ _).trans (X66_s _ _ _ _ _ _ _)) h
theorem X67_s (K : Nat → List SV → List SO → Out) (N nl : Nat) (x0 x1 : SV) (os : List SO) : X67 K N nl x0 x1 os = B67 K N nl x0 x1 os := by kernel_rfl
theorem E67 (n : Nat) (x0 x1 : SV) (os : List SO) : callF prg (n + 1) 67 [x0, x1] os = X67 (callF prg n) (n + 1) os.length x0 x1 os := by kernel_rfl
theorem U67 {Q : SV → List SO → Prop} {x0 x1 : SV} {os : List SO} {nl : Nat} (hnl : os.length = nl) (h : Ev (fun n => B67 (callF prg n) (n + 1) nl x0 x1 os) Q) : Ev (fun n => callF prg n 67 [x0, x1] os) Q := by subst hnl; exact ev_fun (fun n => (E67 n _ _ _).trans (X67_s _ _ _ _ _ _)) h
theorem L68_3_s (K : Nat → List SV → List SO → Out) (N nl : Nat) (m3 : Nat) (x0 x3 x4 : SV) (os : List SO) : L68_3 K N nl (m3 + 1) x0 x3 x4 os = gcB nl [x0, x3, x4] os fun xs os => G68_3 K N nl m3 xs os := by kernel_rfl
theorem UL68_3 {nl c : Nat} {Q : SV → List SO → Prop} {x0 x3 x4 : SV} {os : List SO} (h : Ev (fun n => gcB nl [x0, x3, x4] os fun xs os => G68_3 (callF prg n) (n + 1) nl (n + 1 - (c + 1)) xs os) Q) : Ev (fun n => L68_3 (callF prg n) (n + 1) nl (n + 1 - c) x0 x3 x4 os) Q := ev_loop (L := fun n m => L68_3 (callF prg n) (n + 1) nl m x0 x3 x4 os) (fun n m => L68_3_s _ _ _ _ _ _ _ _) h
theorem VL68_3 {nl : Nat} {Q : SV → List SO → Prop} {x0 x3 x4 : SV} {os : List SO} (h : Ev (fun n => gcB nl [x0, x3, x4] os fun xs os => G68_3 (callF prg n) (n + 1) nl (n + 1 - 1) xs os) Q) : Ev (fun n => L68_3 (callF prg n) (n + 1) nl (n + 1) x0 x3 x4 os) Q := UL68_3 (c := 0) h
theorem G68_3_s (K : Nat → List SV → List SO → Out) (N nl : Nat) (m3 : Nat) (x0 x3 x4 : SV) (os : List SO) : G68_3 K N nl m3 [x0, x3, x4] os = GB68_3 K N nl m3 x0 x3 x4 os := by kernel_rfl
theorem UG68_3 {nl : Nat} {Q : SV → List SO → Prop} (m3 : Nat → Nat) {x0 x3 x4 : SV} {os : List SO} (h : Ev (fun n => GB68_3 (callF prg n) (n + 1) nl (m3 n) x0 x3 x4 os) Q) : Ev (fun n => G68_3 (callF prg n) (n + 1) nl (m3 n) [x0, x3, x4] os) Q := ev_eq (fun n => G68_3_s _ _ _ _ _ _ _ _) h
theorem J68_4_s (K : Nat → List SV → List SO → Out) (N nl : Nat) (m3 : Nat) (x0 x3 x4 : SV) (os : List SO) : J68_4 K N nl m3 x0 x3 x4 os = JB68_4 K N nl m3 x0 x3 x4 os := by kernel_rfl
theorem UJ68_4 {nl : Nat} {Q : SV → List SO → Prop} {m3 : Nat → Nat} {x0 x3 x4 : SV} {os : List SO} (h : Ev (fun n => JB68_4 (callF prg n) (n + 1) nl (m3 n) x0 x3 x4 os) Q) : Ev (fun n => J68_4 (callF prg n) (n + 1) nl (m3 n) x0 x3 x4 os) Q := ev_eq (fun n => J68_4_s _ _ _ _ _ _ _ _) h
theorem X68_s (K : Nat → List SV → List SO → Out) (N nl : Nat) (x0 : SV) (os : List SO) : X68 K N nl x0 os = B68 K N nl x0 os := by kernel_rfl
theorem E68 (n : Nat) (x0 : SV) (os : List SO) : callF prg (n + 1) 68 [x0] os = X68 (callF prg n) (n + 1) os.length x0 os := by kernel_rfl
theorem U68 {Q : SV → List SO → Prop} {x0 : SV} {os : List SO} {nl : Nat} (hnl : os.length = nl) (h : Ev (fun n => B68 (callF prg n) (n + 1) nl x0 os) Q) : Ev (fun n => callF prg n 68 [x0] os) Q := by subst hnl; exact ev_fun (fun n => (E68 n _ _).trans (X68_s _ _ _ _ _)) h
theorem L69_3_s (K : Nat → List SV → List SO → Out) (N nl : Nat) (m3 : Nat) (x0 x3 x4 : SV) (os : List SO) : L69_3 K N nl (m3 + 1) x0 x3 x4 os = gcB nl [x0, x3, x4] os fun xs os => G69_3 K N nl m3 xs os := by kernel_rfl
theorem UL69_3 {nl c : Nat} {Q : SV → List SO → Prop} {x0 x3 x4 : SV} {os : List SO} (h : Ev (fun n => gcB nl [x0, x3, x4] os fun xs os => G69_3 (callF prg n) (n + 1) nl (n + 1 - (c + 1)) xs os) Q) : Ev (fun n => L69_3 (callF prg n) (n + 1) nl (n + 1 - c) x0 x3 x4 os) Q := ev_loop (L := fun n m => L69_3 (callF prg n) (n + 1) nl m x0 x3 x4 os) (fun n m => L69_3_s _ _ _ _ _ _ _ _) h
theorem VL69_3 {nl : Nat} {Q : SV → List SO → Prop} {x0 x3 x4 : SV} {os : List SO} (h : Ev (fun n => gcB nl [x0, x3, x4] os fun xs os => G69_3 (callF prg n) (n + 1) nl (n + 1 - 1) xs os) Q) : Ev (fun n => L69_3 (callF prg n) (n + 1) nl (n + 1) x0 x3 x4 os) Q := UL69_3 (c := 0) h
theorem G69_3_s (K : Nat → List SV → List SO → Out) (N nl : Nat) (m3 : Nat) (x0 x3 x4 : SV) (os : List SO) : G69_3 K N nl m3 [x0, x3, x4] os = GB69_3 K N nl m3 x0 x3 x4 os := by kernel_rfl
theorem UG69_3 {nl : Nat} {Q : SV → List SO → Prop} (m3 : Nat → Nat) {x0 x3 x4 : SV} {os : List SO} (h : Ev (fun n => GB69_3 (callF prg n) (n + 1) nl (m3 n) x0 x3 x4 os) Q) : Ev (fun n => G69_3 (callF prg n) (n + 1) nl (m3 n) [x0, x3, x4] os) Q := ev_eq (fun n => G69_3_s _ _ _ _ _ _ _ _) h
theorem J69_4_s (K : Nat → List SV → List SO → Out) (N nl : Nat) (m3 : Nat) (x0 x3 x4 : SV) (os : List SO) : J69_4 K N nl m3 x0 x3 x4 os = JB69_4 K N nl m3 x0 x3 x4 os := by kernel_rfl
theorem UJ69_4 {nl : Nat} {Q : SV → List SO → Prop} {m3 : Nat → Nat} {x0 x3 x4 : SV} {os : List SO} (h : Ev (fun n => JB69_4 (callF prg n) (n + 1) nl (m3 n) x0 x3 x4 os) Q) : Ev (fun n => J69_4 (callF prg n) (n + 1) nl (m3 n) x0 x3 x4 os) Q := ev_eq (fun n => J69_4_s _ _ _ _ _ _ _ _) h
theorem J69_9_s (K : Nat → List SV → List SO → Out) (N nl : Nat) (x3 : SV) (os : List SO) : J69_9 K N nl x3 os = JB69_9 K N nl x3 os := by kernel_rfl
theorem UJ69_9 {nl : Nat} {Q : SV → List SO → Prop} {x3 : SV} {os : List SO} (h : Ev (fun n => JB69_9 (callF prg n) (n + 1) nl x3 os) Q) : Ev (fun n => J69_9 (callF prg n) (n + 1) nl x3 os) Q := ev_eq (fun n => J69_9_s _ _ _ _ _) h
theorem X69_s (K : Nat → List SV → List SO → Out) (N nl : Nat) (x0 : SV) (os : List SO) : X69 K N nl x0 os = B69 K N nl x0 os := by kernel_rfl
theorem E69 (n : Nat) (x0 : SV) (os : List SO) : callF prg (n + 1) 69 [x0] os = X69 (callF prg n) (n + 1) os.length x0 os := by kernel_rfl
theorem U69 {Q : SV → List SO → Prop} {x0 : SV} {os : List SO} {nl : Nat} (hnl : os.length = nl) (h : Ev (fun n => B69 (callF prg n) (n + 1) nl x0 os) Q) : Ev (fun n => callF prg n 69 [x0] os) Q := by subst hnl; exact ev_fun (fun n => (E69 n _ _).trans (X69_s _ _ _ _ _)) h
theorem X70_s (K : Nat → List SV → List SO → Out) (N nl : Nat) (x0 x1 x2 : SV) (os : List SO) : X70 K N nl x0 x1 x2 os = B70 K N nl x0 x1 x2 os := by kernel_rfl
theorem E70 (n : Nat) (x0 x1 x2 : SV) (os : List SO) : callF prg (n + 1) 70 [x0, x1, x2] os = X70 (callF prg n) (n + 1) os.length x0 x1 x2 os := by kernel_rfl
theorem U70 {Q : SV → List SO → Prop} {x0 x1 x2 : SV} {os : List SO} {nl : Nat} (hnl : os.length = nl) (h : Ev (fun n => B70 (callF prg n) (n + 1) nl x0 x1 x2 os) Q) : Ev (fun n => callF prg n 70 [x0, x1, x2] os) Q := by subst hnl; exact ev_fun (fun n => (E70 n _ _ _ _).trans (X70_s _ _ _ _ _ _ _)) h
theorem X71_s (K : Nat → List SV → List SO → Out) (N nl : Nat) (x0 x1 x2 : SV) (os : List SO) : X71 K N nl x0 x1 x2 os = B71 K N nl x0 x1 x2 os := by kernel_rfl
theorem E71 (n : Nat) (x0 x1 x2 : SV) (os : List SO) : callF prg (n + 1) 71 [x0, x1, x2] os = X71 (callF prg n) (n + 1) os.length x0 x1 x2 os := by kernel_rfl
theorem U71 {Q : SV → List SO → Prop} {x0 x1 x2 : SV} {os : List SO} {nl : Nat} (hnl : os.length = nl) (h : Ev (fun n => B71 (callF prg n) (n + 1) nl x0 x1 x2 os) Q) : Ev (fun n => callF prg n 71 [x0, x1, x2] os) Q := by subst hnl; exact ev_fun (fun n => (E71 n _ _ _ _).trans (X71_s _ _ _ _ _ _ _)) h
theorem X72_s (K : Nat → List SV → List SO → Out) (N nl : Nat) (x0 : SV) (os : List SO) : X72 K N nl x0 os = B72 K N nl x0 os := by kernel_rfl
theorem E72 (n : Nat) (x0 : SV) (os : List SO) : callF prg (n + 1) 72 [x0] os = X72 (callF prg n) (n + 1) os.length x0 os := by kernel_rfl
theorem U72 {Q : SV → List SO → Prop} {x0 : SV} {os : List SO} {nl : Nat} (hnl : os.length = nl) (h : Ev (fun n => B72 (callF prg n) (n + 1) nl x0 os) Q) : Ev (fun n => callF prg n 72 [x0] os) Q := by subst hnl; exact ev_fun (fun n => (E72 n _ _).trans (X72_s _ _ _ _ _)) h
theorem X73_s (K : Nat → List SV → List SO → Out) (N nl : Nat) (x0 : SV) (os : List SO) : X73 K N nl x0 os = B73 K N nl x0 os := by kernel_rfl
theorem E73 (n : Nat) (x0 : SV) (os : List SO) : callF prg (n + 1) 73 [x0] os = X73 (callF prg n) (n + 1) os.length x0 os := by kernel_rfl
theorem U73 {Q : SV → List SO → Prop} {x0 : SV} {os : List SO} {nl : Nat} (hnl : os.length = nl) (h : Ev (fun n => B73 (callF prg n) (n + 1) nl x0 os) Q) : Ev (fun n => callF prg n 73 [x0] os) Q := by subst hnl; exact ev_fun (fun n => (E73 n _ _).trans (X73_s _ _ _ _ _)) h
theorem X74_s (K : Nat → List SV → List SO → Out) (N nl : Nat) (x0 : SV) (os : List SO) : X74 K N nl x0 os = B74 K N nl x0 os := by kernel_rfl
theorem E74 (n : Nat) (x0 : SV) (os : List SO) : callF prg (n + 1) 74 [x0] os = X74 (callF prg n) (n + 1) os.length x0 os := by kernel_rfl
theorem U74 {Q : SV → List SO → Prop} {x0 : SV} {os : List SO} {nl : Nat} (hnl : os.length = nl) (h : Ev (fun n => B74 (callF prg n) (n + 1) nl x0 os) Q) : Ev (fun n => callF prg n 74 [x0] os) Q := by subst hnl; exact ev_fun (fun n => (E74 n _ _).trans (X74_s _ _ _ _ _)) h
theorem L75_4_s (K : Nat → List SV → List SO → Out) (N nl : Nat) (m4 : Nat) (x1 x3 : SV) (os : List SO) : L75_4 K N nl (m4 + 1) x1 x3 os = gcB nl [x1, x3] os fun xs os => G75_4 K N nl m4 xs os := by kernel_rfl
theorem UL75_4 {nl c : Nat} {Q : SV → List SO → Prop} {x1 x3 : SV} {os : List SO} (h : Ev (fun n => gcB nl [x1, x3] os fun xs os => G75_4 (callF prg n) (n + 1) nl (n + 1 - (c + 1)) xs os) Q) : Ev (fun n => L75_4 (callF prg n) (n + 1) nl (n + 1 - c) x1 x3 os) Q := ev_loop (L := fun n m => L75_4 (callF prg n) (n + 1) nl m x1 x3 os) (fun n m => L75_4_s _ _ _ _ _ _ _) h
theorem VL75_4 {nl : Nat} {Q : SV → List SO → Prop} {x1 x3 : SV} {os : List SO} (h : Ev (fun n => gcB nl [x1, x3] os fun xs os => G75_4 (callF prg n) (n + 1) nl (n + 1 - 1) xs os) Q) : Ev (fun n => L75_4 (callF prg n) (n + 1) nl (n + 1) x1 x3 os) Q := UL75_4 (c := 0) h
theorem G75_4_s (K : Nat → List SV → List SO → Out) (N nl : Nat) (m4 : Nat) (x1 x3 : SV) (os : List SO) : G75_4 K N nl m4 [x1, x3] os = GB75_4 K N nl m4 x1 x3 os := by kernel_rfl
theorem UG75_4 {nl : Nat} {Q : SV → List SO → Prop} (m4 : Nat → Nat) {x1 x3 : SV} {os : List SO} (h : Ev (fun n => GB75_4 (callF prg n) (n + 1) nl (m4 n) x1 x3 os) Q) : Ev (fun n => G75_4 (callF prg n) (n + 1) nl (m4 n) [x1, x3] os) Q := ev_eq (fun n => G75_4_s _ _ _ _ _ _ _) h
theorem X75_s (K : Nat → List SV → List SO → Out) (N nl : Nat) (x0 : SV) (os : List SO) : X75 K N nl x0 os = B75 K N nl x0 os := by kernel_rfl
theorem E75 (n : Nat) (x0 : SV) (os : List SO) : callF prg (n + 1) 75 [x0] os = X75 (callF prg n) (n + 1) os.length x0 os := by kernel_rfl
theorem U75 {Q : SV → List SO → Prop} {x0 : SV} {os : List SO} {nl : Nat} (hnl : os.length = nl) (h : Ev (fun n => B75 (callF prg n) (n + 1) nl x0 os) Q) : Ev (fun n => callF prg n 75 [x0] os) Q := by subst hnl; exact ev_fun (fun n => (E75 n _ _).trans (X75_s _ _ _ _ _)) h
theorem L76_2_s (K : Nat → List SV → List SO → Out) (N nl : Nat) (m2 : Nat) (x0 x5 x6 x7 : SV) (os : List SO) : L76_2 K N nl (m2 + 1) x0 x5 x6 x7 os = LB76_2 K N nl m2 x0 x5 x6 x7 os := by kernel_rfl
theorem UL76_2 {nl c : Nat} {Q : SV → List SO → Prop} {x0 x5 x6 x7 : SV} {os : List SO} (h : Ev (fun n => LB76_2 (callF prg n) (n + 1) nl (n + 1 - (c + 1)) x0 x5 x6 x7 os) Q) : Ev (fun n => L76_2 (callF prg n) (n + 1) nl (n + 1 - c) x0 x5 x6 x7 os) Q := ev_loop (L := fun n m => L76_2 (callF prg n) (n + 1) nl m x0 x5 x6 x7 os) (fun n m => L76_2_s _ _ _ _ _ _ _ _ _) h
theorem VL76_2 {nl : Nat} {Q : SV → List SO → Prop} {x0 x5 x6 x7 : SV} {os : List SO} (h : Ev (fun n => LB76_2 (callF prg n) (n + 1) nl (n + 1 - 1) x0 x5 x6 x7 os) Q) : Ev (fun n => L76_2 (callF prg n) (n + 1) nl (n + 1) x0 x5 x6 x7 os) Q := UL76_2 (c := 0) h
theorem X76_s (K : Nat → List SV → List SO → Out) (N nl : Nat) (x0 : SV) (os : List SO) : X76 K N nl x0 os = B76 K N nl x0 os := by kernel_rfl
theorem E76 (n : Nat) (x0 : SV) (os : List SO) : callF prg (n + 1) 76 [x0] os = X76 (callF prg n) (n + 1) os.length x0 os := by kernel_rfl
theorem U76 {Q : SV → List SO → Prop} {x0 : SV} {os : List SO} {nl : Nat} (hnl : os.length = nl) (h : Ev (fun n => B76 (callF prg n) (n + 1) nl x0 os) Q) : Ev (fun n => callF prg n 76 [x0] os) Q := by subst hnl; exact ev_fun (fun n => (E76 n _ _).trans (X76_s _ _ _ _ _)) h
theorem L77_5_s (K : Nat → List SV → List SO → Out) (N nl : Nat) (m5 : Nat) (x1 x5 x16 x17 x18 : SV) (os : List SO) : L77_5 K N nl (m5 + 1) x1 x5 x16 x17 x18 os = LB77_5 K N nl m5 x1 x5 x16 x17 x18 os := by kernel_rfl
theorem UL77_5 {nl c : Nat} {Q : SV → List SO → Prop} {x1 x5 x16 x17 x18 : SV} {os : List SO} (h : Ev (fun n => LB77_5 (callF prg n) (n + 1) nl (n + 1 - (c + 1)) x1 x5 x16 x17 x18 os) Q) : Ev (fun n => L77_5 (callF prg n) (n + 1) nl (n + 1 - c) x1 x5 x16 x17 x18 os) Q := ev_loop (L := fun n m => L77_5 (callF prg n) (n + 1) nl m x1 x5 x16 x17 x18 os) (fun n m => L77_5_s _ _ _ _ _ _ _ _ _ _) h
theorem VL77_5 {nl : Nat} {Q : SV → List SO → Prop} {x1 x5 x16 x17 x18 : SV} {os : List SO} (h : Ev (fun n => LB77_5 (callF prg n) (n + 1) nl (n + 1 - 1) x1 x5 x16 x17 x18 os) Q) : Ev (fun n => L77_5 (callF prg n) (n + 1) nl (n + 1) x1 x5 x16 x17 x18 os) Q := UL77_5 (c := 0) h
theorem J77_9_s (K : Nat → List SV → List SO → Out) (N nl : Nat) (m5 : Nat) (x1 x5 x16 x17 x18 : SV) (os : List SO) : J77_9 K N nl m5 x1 x5 x16 x17 x18 os = JB77_9 K N nl m5 x1 x5 x16 x17 x18 os := by kernel_rfl
theorem UJ77_9 {nl : Nat} {Q : SV → List SO → Prop} {m5 : Nat → Nat} {x1 x5 x16 x17 x18 : SV} {os : List SO} (h : Ev (fun n => JB77_9 (callF prg n) (n + 1) nl (m5 n) x1 x5 x16 x17 x18 os) Q) : Ev (fun n => J77_9 (callF prg n) (n + 1) nl (m5 n) x1 x5 x16 x17 x18 os) Q := ev_eq (fun n => J77_9_s _ _ _ _ _ _ _ _ _ _) h
theorem X77_s (K : Nat → List SV → List SO → Out) (N nl : Nat) (x0 x1 : SV) (os : List SO) : X77 K N nl x0 x1 os = B77 K N nl x0 x1 os := by kernel_rfl
theorem E77 (n : Nat) (x0 x1 : SV) (os : List SO) : callF prg (n + 1) 77 [x0, x1] os = X77 (callF prg n) (n + 1) os.length x0 x1 os := by kernel_rfl
theorem U77 {Q : SV → List SO → Prop} {x0 x1 : SV} {os : List SO} {nl : Nat} (hnl : os.length = nl) (h : Ev (fun n => B77 (callF prg n) (n + 1) nl x0 x1 os) Q) : Ev (fun n => callF prg n 77 [x0, x1] os) Q := by subst hnl; exact ev_fun (fun n => (E77 n _ _ _).trans (X77_s _ _ _ _ _ _)) h
theorem L78_4_s (K : Nat → List SV → List SO → Out) (N nl : Nat) (m4 : Nat) (x0 x1 x5 : SV) (os : List SO) : L78_4 K N nl (m4 + 1) x0 x1 x5 os = LB78_4 K N nl m4 x0 x1 x5 os := by kernel_rfl
theorem UL78_4 {nl c : Nat} {Q : SV → List SO → Prop} {x0 x1 x5 : SV} {os : List SO} (h : Ev (fun n => LB78_4 (callF prg n) (n + 1) nl (n + 1 - (c + 1)) x0 x1 x5 os) Q) : Ev (fun n => L78_4 (callF prg n) (n + 1) nl (n + 1 - c) x0 x1 x5 os) Q := ev_loop (L := fun n m => L78_4 (callF prg n) (n + 1) nl m x0 x1 x5 os) (fun n m => L78_4_s _ _ _ _ _ _ _ _) h
theorem VL78_4 {nl : Nat} {Q : SV → List SO → Prop} {x0 x1 x5 : SV} {os : List SO} (h : Ev (fun n => LB78_4 (callF prg n) (n + 1) nl (n + 1 - 1) x0 x1 x5 os) Q) : Ev (fun n => L78_4 (callF prg n) (n + 1) nl (n + 1) x0 x1 x5 os) Q := UL78_4 (c := 0) h
theorem X78_s (K : Nat → List SV → List SO → Out) (N nl : Nat) (x0 x1 : SV) (os : List SO) : X78 K N nl x0 x1 os = B78 K N nl x0 x1 os := by kernel_rfl
theorem E78 (n : Nat) (x0 x1 : SV) (os : List SO) : callF prg (n + 1) 78 [x0, x1] os = X78 (callF prg n) (n + 1) os.length x0 x1 os := by kernel_rfl
theorem U78 {Q : SV → List SO → Prop} {x0 x1 : SV} {os : List SO} {nl : Nat} (hnl : os.length = nl) (h : Ev (fun n => B78 (callF prg n) (n + 1) nl x0 x1 os) Q) : Ev (fun n => callF prg n 78 [x0, x1] os) Q := by subst hnl; exact ev_fun (fun n => (E78 n _ _ _).trans (X78_s _ _ _ _ _ _)) h
theorem L79_3_s (K : Nat → List SV → List SO → Out) (N nl : Nat) (m3 : Nat) (x0 x1 x5 x6 : SV) (os : List SO) : L79_3 K N nl (m3 + 1) x0 x1 x5 x6 os = gcB nl [x0, x1, x5, x6] os fun xs os => G79_3 K N nl m3 xs os := by kernel_rfl
theorem UL79_3 {nl c : Nat} {Q : SV → List SO → Prop} {x0 x1 x5 x6 : SV} {os : List SO} (h : Ev (fun n => gcB nl [x0, x1, x5, x6] os fun xs os => G79_3 (callF prg n) (n + 1) nl (n + 1 - (c + 1)) xs os) Q) : Ev (fun n => L79_3 (callF prg n) (n + 1) nl (n + 1 - c) x0 x1 x5 x6 os) Q := ev_loop (L := fun n m => L79_3 (callF prg n) (n + 1) nl m x0 x1 x5 x6 os) (fun n m => L79_3_s _ _ _ _ _ _ _ _ _) h
theorem VL79_3 {nl : Nat} {Q : SV → List SO → Prop} {x0 x1 x5 x6 : SV} {os : List SO} (h : Ev (fun n => gcB nl [x0, x1, x5, x6] os fun xs os => G79_3 (callF prg n) (n + 1) nl (n + 1 - 1) xs os) Q) : Ev (fun n => L79_3 (callF prg n) (n + 1) nl (n + 1) x0 x1 x5 x6 os) Q := UL79_3 (c := 0) h
theorem G79_3_s (K : Nat → List SV → List SO → Out) (N nl : Nat) (m3 : Nat) (x0 x1 x5 x6 : SV) (os : List SO) : G79_3 K N nl m3 [x0, x1, x5, x6] os = GB79_3 K N nl m3 x0 x1 x5 x6 os := by kernel_rfl
theorem UG79_3 {nl : Nat} {Q : SV → List SO → Prop} (m3 : Nat → Nat) {x0 x1 x5 x6 : SV} {os : List SO} (h : Ev (fun n => GB79_3 (callF prg n) (n + 1) nl (m3 n) x0 x1 x5 x6 os) Q) : Ev (fun n => G79_3 (callF prg n) (n + 1) nl (m3 n) [x0, x1, x5, x6] os) Q := ev_eq (fun n => G79_3_s _ _ _ _ _ _ _ _ _) h
theorem J79_4_s (K : Nat → List SV → List SO → Out) (N nl : Nat) (m3 : Nat) (x0 x1 x5 x6 : SV) (os : List SO) : J79_4 K N nl m3 x0 x1 x5 x6 os = JB79_4 K N nl m3 x0 x1 x5 x6 os := by kernel_rfl
theorem UJ79_4 {nl : Nat} {Q : SV → List SO → Prop} {m3 : Nat → Nat} {x0 x1 x5 x6 : SV} {os : List SO} (h : Ev (fun n => JB79_4 (callF prg n) (n + 1) nl (m3 n) x0 x1 x5 x6 os) Q) : Ev (fun n => J79_4 (callF prg n) (n + 1) nl (m3 n) x0 x1 x5 x6 os) Q := ev_eq (fun n => J79_4_s _ _ _ _ _ _ _ _ _) h
theorem X79_s (K : Nat → List SV → List SO → Out) (N nl : Nat) (x0 x1 : SV) (os : List SO) : X79 K N nl x0 x1 os = B79 K N nl x0 x1 os := by kernel_rfl
theorem E79 (n : Nat) (x0 x1 : SV) (os : List SO) : callF prg (n + 1) 79 [x0, x1] os = X79 (callF prg n) (n + 1) os.length x0 x1 os := by kernel_rfl
theorem U79 {Q : SV → List SO → Prop} {x0 x1 : SV} {os : List SO} {nl : Nat} (hnl : os.length = nl) (h : Ev (fun n => B79 (callF prg n) (n + 1) nl x0 x1 os) Q) : Ev (fun n => callF prg n 79 [x0, x1] os) Q := by subst hnl; exact ev_fun (fun n => (E79 n _ _ _).trans (X79_s _ _ _ _ _ _)) h
theorem X80_s (K : Nat → List SV → List SO → Out) (N nl : Nat) (x0 x1 : SV) (os : List SO) : X80 K N nl x0 x1 os = B80 K N nl x0 x1 os := by kernel_rfl
theorem E80 (n : Nat) (x0 x1 : SV) (os : List SO) : callF prg (n + 1) 80 [x0, x1] os = X80 (callF prg n) (n + 1) os.length x0 x1 os := by kernel_rfl
theorem U80 {Q : SV → List SO → Prop} {x0 x1 : SV} {os : List SO} {nl : Nat} (hnl : os.length = nl) (h : Ev (fun n => B80 (callF prg n) (n + 1) nl x0 x1 os) Q) : Ev (fun n => callF prg n 80 [x0, x1] os) Q := by subst hnl; exact ev_fun (fun n => (E80 n _ _ _).trans (X80_s _ _ _ _ _ _)) h
theorem X81_s (K : Nat → List SV → List SO → Out) (N nl : Nat) (x0 x1 : SV) (os : List SO) : X81 K N nl x0 x1 os = B81 K N nl x0 x1 os := by kernel_rfl
theorem E81 (n : Nat) (x0 x1 : SV) (os : List SO) : callF prg (n + 1) 81 [x0, x1] os = X81 (callF prg n) (n + 1) os.length x0 x1 os := by kernel_rfl
theorem U81 {Q : SV → List SO → Prop} {x0 x1 : SV} {os : List SO} {nl : Nat} (hnl : os.length = nl) (h : Ev (fun n => B81 (callF prg n) (n + 1) nl x0 x1 os) Q) : Ev (fun n => callF prg n 81 [x0, x1] os) Q := by subst hnl; exact ev_fun (fun n => (E81 n _ _ _).trans (X81_s _ _ _ _ _ _)) h
theorem X82_s (K : Nat → List SV → List SO → Out) (N nl : Nat) (x0 : SV) (os : List SO) : X82 K N nl x0 os = B82 K N nl x0 os := by kernel_rfl
theorem E82 (n : Nat) (x0 : SV) (os : List SO) : callF prg (n + 1) 82 [x0] os = X82 (callF prg n) (n + 1) os.length x0 os := by kernel_rfl
theorem U82 {Q : SV → List SO → Prop} {x0 : SV} {os : List SO} {nl : Nat} (hnl : os.length = nl) (h : Ev (fun n => B82 (callF prg n) (n + 1) nl x0 os) Q) : Ev (fun n => callF prg n 82 [x0] os) Q := by subst hnl; exact ev_fun (fun n => (E82 n _ _).trans (X82_s _ _ _ _ _)) h
theorem L83_2_s (K : Nat → List SV → List SO → Out) (N nl : Nat) (m2 : Nat) (x0 x3 : SV) (os : List SO) : L83_2 K N nl (m2 + 1) x0 x3 os = LB83_2 K N nl m2 x0 x3 os := by kernel_rfl
theorem UL83_2 {nl c : Nat} {Q : SV → List SO → Prop} {x0 x3 : SV} {os : List SO} (h : Ev (fun n => LB83_2 (callF prg n) (n + 1) nl (n + 1 - (c + 1)) x0 x3 os) Q) : Ev (fun n => L83_2 (callF prg n) (n + 1) nl (n + 1 - c) x0 x3 os) Q := ev_loop (L := fun n m => L83_2 (callF prg n) (n + 1) nl m x0 x3 os) (fun n m => L83_2_s _ _ _ _ _ _ _) h
theorem VL83_2 {nl : Nat} {Q : SV → List SO → Prop} {x0 x3 : SV} {os : List SO} (h : Ev (fun n => LB83_2 (callF prg n) (n + 1) nl (n + 1 - 1) x0 x3 os) Q) : Ev (fun n => L83_2 (callF prg n) (n + 1) nl (n + 1) x0 x3 os) Q := UL83_2 (c := 0) h
theorem X83_s (K : Nat → List SV → List SO → Out) (N nl : Nat) (x0 : SV) (os : List SO) : X83 K N nl x0 os = B83 K N nl x0 os := by kernel_rfl
theorem E83 (n : Nat) (x0 : SV) (os : List SO) : callF prg (n + 1) 83 [x0] os = X83 (callF prg n) (n + 1) os.length x0 os := by kernel_rfl
theorem U83 {Q : SV → List SO → Prop} {x0 : SV} {os : List SO} {nl : Nat} (hnl : os.length = nl) (h : Ev (fun n => B83 (callF prg n) (n + 1) nl x0 os) Q) : Ev (fun n => callF prg n 83 [x0] os) Q := by subst hnl; exact ev_fun (fun n => (E83 n _ _).trans (X83_s _ _ _ _ _)) h
theorem E84 (n : Nat) (xs : List SV) (os : List SO) : callF prg (n + 1) 84 xs os = cloneS 1 8 xs os := by kernel_rfl
theorem X85_s (K : Nat → List SV → List SO → Out) (N nl : Nat) (x0 : SV) (os : List SO) : X85 K N nl x0 os = B85 K N nl x0 os := by kernel_rfl
theorem E85 (n : Nat) (x0 : SV) (os : List SO) : callF prg (n + 1) 85 [x0] os = X85 (callF prg n) (n + 1) os.length x0 os := by kernel_rfl
theorem U85 {Q : SV → List SO → Prop} {x0 : SV} {os : List SO} {nl : Nat} (hnl : os.length = nl) (h : Ev (fun n => B85 (callF prg n) (n + 1) nl x0 os) Q) : Ev (fun n => callF prg n 85 [x0] os) Q := by subst hnl; exact ev_fun (fun n => (E85 n _ _).trans (X85_s _ _ _ _ _)) h
theorem X86_s (K : Nat → List SV → List SO → Out) (N nl : Nat) (x0 : SV) (os : List SO) : X86 K N nl x0 os = B86 K N nl x0 os := by kernel_rfl
theorem E86 (n : Nat) (x0 : SV) (os : List SO) : callF prg (n + 1) 86 [x0] os = X86 (callF prg n) (n + 1) os.length x0 os := by kernel_rfl
theorem U86 {Q : SV → List SO → Prop} {x0 : SV} {os : List SO} {nl : Nat} (hnl : os.length = nl) (h : Ev (fun n => B86 (callF prg n) (n + 1) nl x0 os) Q) : Ev (fun n => callF prg n 86 [x0] os) Q := by subst hnl; exact ev_fun (fun n => (E86 n _ _).trans (X86_s _ _ _ _ _)) h
theorem L87_4_s (K : Nat → List SV → List SO → Out) (N nl : Nat) (m4 : Nat) (x0 x1 x12 x13 : SV) (os : List SO) : L87_4 K N nl (m4 + 1) x0 x1 x12 x13 os = LB87_4 K N nl m4 x0 x1 x12 x13 os := by kernel_rfl
theorem UL87_4 {nl c : Nat} {Q : SV → List SO → Prop} {x0 x1 x12 x13 : SV} {os : List SO} (h : Ev (fun n => LB87_4 (callF prg n) (n + 1) nl (n + 1 - (c + 1)) x0 x1 x12 x13 os) Q) : Ev (fun n => L87_4 (callF prg n) (n + 1) nl (n + 1 - c) x0 x1 x12 x13 os) Q := ev_loop (L := fun n m => L87_4 (callF prg n) (n + 1) nl m x0 x1 x12 x13 os) (fun n m => L87_4_s _ _ _ _ _ _ _ _ _) h
theorem VL87_4 {nl : Nat} {Q : SV → List SO → Prop} {x0 x1 x12 x13 : SV} {os : List SO} (h : Ev (fun n => LB87_4 (callF prg n) (n + 1) nl (n + 1 - 1) x0 x1 x12 x13 os) Q) : Ev (fun n => L87_4 (callF prg n) (n + 1) nl (n + 1) x0 x1 x12 x13 os) Q := UL87_4 (c := 0) h
theorem X87_s (K : Nat → List SV → List SO → Out) (N nl : Nat) (x0 x1 : SV) (os : List SO) : X87 K N nl x0 x1 os = B87 K N nl x0 x1 os := by kernel_rfl
theorem E87 (n : Nat) (x0 x1 : SV) (os : List SO) : callF prg (n + 1) 87 [x0, x1] os = X87 (callF prg n) (n + 1) os.length x0 x1 os := by kernel_rfl
theorem U87 {Q : SV → List SO → Prop} {x0 x1 : SV} {os : List SO} {nl : Nat} (hnl : os.length = nl) (h : Ev (fun n => B87 (callF prg n) (n + 1) nl x0 x1 os) Q) : Ev (fun n => callF prg n 87 [x0, x1] os) Q := by subst hnl; exact ev_fun (fun n => (E87 n _ _ _).trans (X87_s _ _ _ _ _ _)) h
theorem L88_4_s (K : Nat → List SV → List SO → Out) (N nl : Nat) (m4 : Nat) (x0 x1 x5 : SV) (os : List SO) : L88_4 K N nl (m4 + 1) x0 x1 x5 os = LB88_4 K N nl m4 x0 x1 x5 os := by kernel_rfl
theorem UL88_4 {nl c : Nat} {Q : SV → List SO → Prop} {x0 x1 x5 : SV} {os : List SO} (h : Ev (fun n => LB88_4 (callF prg n) (n + 1) nl (n + 1 - (c + 1)) x0 x1 x5 os) Q) : Ev (fun n => L88_4 (callF prg n) (n + 1) nl (n + 1 - c) x0 x1 x5 os) Q := ev_loop (L := fun n m => L88_4 (callF prg n) (n + 1) nl m x0 x1 x5 os) (fun n m => L88_4_s _ _ _ _ _ _ _ _) h
theorem VL88_4 {nl : Nat} {Q : SV → List SO → Prop} {x0 x1 x5 : SV} {os : List SO} (h : Ev (fun n => LB88_4 (callF prg n) (n + 1) nl (n + 1 - 1) x0 x1 x5 os) Q) : Ev (fun n => L88_4 (callF prg n) (n + 1) nl (n + 1) x0 x1 x5 os) Q := UL88_4 (c := 0) h
theorem X88_s (K : Nat → List SV → List SO → Out) (N nl : Nat) (x0 x1 : SV) (os : List SO) : X88 K N nl x0 x1 os = B88 K N nl x0 x1 os := by kernel_rfl
theorem E88 (n : Nat) (x0 x1 : SV) (os : List SO) : callF prg (n + 1) 88 [x0, x1] os = X88 (callF prg n) (n + 1) os.length x0 x1 os := by kernel_rfl
theorem U88 {Q : SV → List SO → Prop} {x0 x1 : SV} {os : List SO} {nl : Nat} (hnl : os.length = nl) (h : Ev (fun n => B88 (callF prg n) (n + 1) nl x0 x1 os) Q) : Ev (fun n => callF prg n 88 [x0, x1] os) Q := by subst hnl; exact ev_fun (fun n => (E88 n _ _ _).trans (X88_s _ _ _ _ _ _)) h
theorem L89_2_s (K : Nat → List SV → List SO → Out) (N nl : Nat) (m2 : Nat) (x0 x1 x5 : SV) (os : List SO) : L89_2 K N nl (m2 + 1) x0 x1 x5 os = LB89_2 K N nl m2 x0 x1 x5 os := by kernel_rfl
theorem UL89_2 {nl c : Nat} {Q : SV → List SO → Prop} {x0 x1 x5 : SV} {os : List SO} (h : Ev (fun n => LB89_2 (callF prg n) (n + 1) nl (n + 1 - (c + 1)) x0 x1 x5 os) Q) : Ev (fun n => L89_2 (callF prg n) (n + 1) nl (n + 1 - c) x0 x1 x5 os) Q := ev_loop (L := fun n m => L89_2 (callF prg n) (n + 1) nl m x0 x1 x5 os) (fun n m => L89_2_s _ _ _ _ _ _ _ _) h
theorem VL89_2 {nl : Nat} {Q : SV → List SO → Prop} {x0 x1 x5 : SV} {os : List SO} (h : Ev (fun n => LB89_2 (callF prg n) (n + 1) nl (n + 1 - 1) x0 x1 x5 os) Q) : Ev (fun n => L89_2 (callF prg n) (n + 1) nl (n + 1) x0 x1 x5 os) Q := UL89_2 (c := 0) h
theorem X89_s (K : Nat → List SV → List SO → Out) (N nl : Nat) (x0 x1 : SV) (os : List SO) : X89 K N nl x0 x1 os = B89 K N nl x0 x1 os := by kernel_rfl
theorem E89 (n : Nat) (x0 x1 : SV) (os : List SO) : callF prg (n + 1) 89 [x0, x1] os = X89 (callF prg n) (n + 1) os.length x0 x1 os := by kernel_rfl
theorem U89 {Q : SV → List SO → Prop} {x0 x1 : SV} {os : List SO} {nl : Nat} (hnl : os.length = nl) (h : Ev (fun n => B89 (callF prg n) (n + 1) nl x0 x1 os) Q) : Ev (fun n => callF prg n 89 [x0, x1] os) Q := by subst hnl; exact ev_fun (fun n => (E89 n _ _ _).trans (X89_s _ _ _ _ _ _)) h
theorem L90_2_s (K : Nat → List SV → List SO → Out) (N nl : Nat) (m2 : Nat) (x0 x1 x5 : SV) (os : List SO) : L90_2 K N nl (m2 + 1) x0 x1 x5 os = LB90_2 K N nl m2 x0 x1 x5 os := by kernel_rfl
theorem UL90_2 {nl c : Nat} {Q : SV → List SO → Prop} {x0 x1 x5 : SV} {os : List SO} (h : Ev (fun n => LB90_2 (callF prg n) (n + 1) nl (n + 1 - (c + 1)) x0 x1 x5 os) Q) : Ev (fun n => L90_2 (callF prg n) (n + 1) nl (n + 1 - c) x0 x1 x5 os) Q := ev_loop (L := fun n m => L90_2 (callF prg n) (n + 1) nl m x0 x1 x5 os) (fun n m => L90_2_s _ _ _ _ _ _ _ _) h
theorem VL90_2 {nl : Nat} {Q : SV → List SO → Prop} {x0 x1 x5 : SV} {os : List SO} (h : Ev (fun n => LB90_2 (callF prg n) (n + 1) nl (n + 1 - 1) x0 x1 x5 os) Q) : Ev (fun n => L90_2 (callF prg n) (n + 1) nl (n + 1) x0 x1 x5 os) Q := UL90_2 (c := 0) h
theorem X90_s (K : Nat → List SV → List SO → Out) (N nl : Nat) (x0 x1 : SV) (os : List SO) : X90 K N nl x0 x1 os = B90 K N nl x0 x1 os := by kernel_rfl
theorem E90 (n : Nat) (x0 x1 : SV) (os : List SO) : callF prg (n + 1) 90 [x0, x1] os = X90 (callF prg n) (n + 1) os.length x0 x1 os := by kernel_rfl
theorem U90 {Q : SV → List SO → Prop} {x0 x1 : SV} {os : List SO} {nl : Nat} (hnl : os.length = nl) (h : Ev (fun n => B90 (callF prg n) (n + 1) nl x0 x1 os) Q) : Ev (fun n => callF prg n 90 [x0, x1] os) Q := by subst hnl; exact ev_fun (fun n => (E90 n _ _ _).trans (X90_s _ _ _ _ _ _)) h
theorem L91_2_s (K : Nat → List SV → List SO → Out) (N nl : Nat) (m2 : Nat) (x0 x1 x5 : SV) (os : List SO) : L91_2 K N nl (m2 + 1) x0 x1 x5 os = LB91_2 K N nl m2 x0 x1 x5 os := by kernel_rfl
theorem UL91_2 {nl c : Nat} {Q : SV → List SO → Prop} {x0 x1 x5 : SV} {os : List SO} (h : Ev (fun n => LB91_2 (callF prg n) (n + 1) nl (n + 1 - (c + 1)) x0 x1 x5 os) Q) : Ev (fun n => L91_2 (callF prg n) (n + 1) nl (n + 1 - c) x0 x1 x5 os) Q := ev_loop (L := fun n m => L91_2 (callF prg n) (n + 1) nl m x0 x1 x5 os) (fun n m => L91_2_s _ _ _ _ _ _ _ _) h
theorem VL91_2 {nl : Nat} {Q : SV → List SO → Prop} {x0 x1 x5 : SV} {os : List SO} (h : Ev (fun n => LB91_2 (callF prg n) (n + 1) nl (n + 1 - 1) x0 x1 x5 os) Q) : Ev (fun n => L91_2 (callF prg n) (n + 1) nl (n + 1) x0 x1 x5 os) Q := UL91_2 (c := 0) h
theorem X91_s (K : Nat → List SV → List SO → Out) (N nl : Nat) (x0 x1 : SV) (os : List SO) : X91 K N nl x0 x1 os = B91 K N nl x0 x1 os := by kernel_rfl
theorem E91 (n : Nat) (x0 x1 : SV) (os : List SO) : callF prg (n + 1) 91 [x0, x1] os = X91 (callF prg n) (n + 1) os.length x0 x1 os := by kernel_rfl
theorem U91 {Q : SV → List SO → Prop} {x0 x1 : SV} {os : List SO} {nl : Nat} (hnl : os.length = nl) (h : Ev (fun n => B91 (callF prg n) (n + 1) nl x0 x1 os) Q) : Ev (fun n => callF prg n 91 [x0, x1] os) Q := by subst hnl; exact ev_fun (fun n => (E91 n _ _ _).trans (X91_s _ _ _ _ _ _)) h
theorem J92_9_s (K : Nat → List SV → List SO → Out) (N nl : Nat) (x2 x3 : SV) (os : List SO) : J92_9 K N nl x2 x3 os = JB92_9 K N nl x2 x3 os := by kernel_rfl
theorem UJ92_9 {nl : Nat} {Q : SV → List SO → Prop} {x2 x3 : SV} {os : List SO} (h : Ev (fun n => JB92_9 (callF prg n) (n + 1) nl x2 x3 os) Q) : Ev (fun n => J92_9 (callF prg n) (n + 1) nl x2 x3 os) Q := ev_eq (fun n => J92_9_s _ _ _ _ _ _) h
theorem X92_s (K : Nat → List SV → List SO → Out) (N nl : Nat) (x0 : SV) (os : List SO) : X92 K N nl x0 os = B92 K N nl x0 os := by kernel_rfl
theorem E92 (n : Nat) (x0 : SV) (os : List SO) : callF prg (n + 1) 92 [x0] os = X92 (callF prg n) (n + 1) os.length x0 os := by kernel_rfl
theorem U92 {Q : SV → List SO → Prop} {x0 : SV} {os : List SO} {nl : Nat} (hnl : os.length = nl) (h : Ev (fun n => B92 (callF prg n) (n + 1) nl x0 os) Q) : Ev (fun n => callF prg n 92 [x0] os) Q := by subst hnl; exact ev_fun (fun n => (E92 n _ _).trans (X92_s _ _ _ _ _)) h
theorem L93_2_s (K : Nat → List SV → List SO → Out) (N nl : Nat) (m2 : Nat) (x0 x3 : SV) (os : List SO) : L93_2 K N nl (m2 + 1) x0 x3 os = LB93_2 K N nl m2 x0 x3 os := by kernel_rfl
theorem UL93_2 {nl c : Nat} {Q : SV → List SO → Prop} {x0 x3 : SV} {os : List SO} (h : Ev (fun n => LB93_2 (callF prg n) (n + 1) nl (n + 1 - (c + 1)) x0 x3 os) Q) : Ev (fun n => L93_2 (callF prg n) (n + 1) nl (n + 1 - c) x0 x3 os) Q := ev_loop (L := fun n m => L93_2 (callF prg n) (n + 1) nl m x0 x3 os) (fun n m => L93_2_s _ _ _ _ _ _ _) h
theorem VL93_2 {nl : Nat} {Q : SV → List SO → Prop} {x0 x3 : SV} {os : List SO} (h : Ev (fun n => LB93_2 (callF prg n) (n + 1) nl (n + 1 - 1) x0 x3 os) Q) : Ev (fun n => L93_2 (callF prg n) (n + 1) nl (n + 1) x0 x3 os) Q := UL93_2 (c := 0) h
theorem X93_s (K : Nat → List SV → List SO → Out) (N nl : Nat) (x0 : SV) (os : List SO) : X93 K N nl x0 os = B93 K N nl x0 os := by kernel_rfl
theorem E93 (n : Nat) (x0 : SV) (os : List SO) : callF prg (n + 1) 93 [x0] os = X93 (callF prg n) (n + 1) os.length x0 os := by kernel_rfl
theorem U93 {Q : SV → List SO → Prop} {x0 : SV} {os : List SO} {nl : Nat} (hnl : os.length = nl) (h : Ev (fun n => B93 (callF prg n) (n + 1) nl x0 os) Q) : Ev (fun n => callF prg n 93 [x0] os) Q := by subst hnl; exact ev_fun (fun n => (E93 n _ _).trans (X93_s _ _ _ _ _)) h
theorem L94_3_s (K : Nat → List SV → List SO → Out) (N nl : Nat) (m3 : Nat) (x0 x3 x4 : SV) (os : List SO) : L94_3 K N nl (m3 + 1) x0 x3 x4 os = LB94_3 K N nl m3 x0 x3 x4 os := by kernel_rfl
theorem UL94_3 {nl c : Nat} {Q : SV → List SO → Prop} {x0 x3 x4 : SV} {os : List SO} (h : Ev (fun n => LB94_3 (callF prg n) (n + 1) nl (n + 1 - (c + 1)) x0 x3 x4 os) Q) : Ev (fun n => L94_3 (callF prg n) (n + 1) nl (n + 1 - c) x0 x3 x4 os) Q := ev_loop (L := fun n m => L94_3 (callF prg n) (n + 1) nl m x0 x3 x4 os) (fun n m => L94_3_s _ _ _ _ _ _ _ _) h
theorem VL94_3 {nl : Nat} {Q : SV → List SO → Prop} {x0 x3 x4 : SV} {os : List SO} (h : Ev (fun n => LB94_3 (callF prg n) (n + 1) nl (n + 1 - 1) x0 x3 x4 os) Q) : Ev (fun n => L94_3 (callF prg n) (n + 1) nl (n + 1) x0 x3 x4 os) Q := UL94_3 (c := 0) h
theorem X94_s (K : Nat → List SV → List SO → Out) (N nl : Nat) (x0 : SV) (os : List SO) : X94 K N nl x0 os = B94 K N nl x0 os := by kernel_rfl
theorem E94 (n : Nat) (x0 : SV) (os : List SO) : callF prg (n + 1) 94 [x0] os = X94 (callF prg n) (n + 1) os.length x0 os := by kernel_rfl
theorem U94 {Q : SV → List SO → Prop} {x0 : SV} {os : List SO} {nl : Nat} (hnl : os.length = nl) (h : Ev (fun n => B94 (callF prg n) (n + 1) nl x0 os) Q) : Ev (fun n => callF prg n 94 [x0] os) Q := by subst hnl; exact ev_fun (fun n => (E94 n _ _).trans (X94_s _ _ _ _ _)) h
theorem L95_5_s (K : Nat → List SV → List SO → Out) (N nl : Nat) (m5 : Nat) (x1 x3 x4 : SV) (os : List SO) : L95_5 K N nl (m5 + 1) x1 x3 x4 os = LB95_5 K N nl m5 x1 x3 x4 os := by kernel_rfl
theorem UL95_5 {nl c : Nat} {Q : SV → List SO → Prop} {x1 x3 x4 : SV} {os : List SO} (h : Ev (fun n => LB95_5 (callF prg n) (n + 1) nl (n + 1 - (c + 1)) x1 x3 x4 os) Q) : Ev (fun n => L95_5 (callF prg n) (n + 1) nl (n + 1 - c) x1 x3 x4 os) Q := ev_loop (L := fun n m => L95_5 (callF prg n) (n + 1) nl m x1 x3 x4 os) (fun n m => L95_5_s _ _ _ _ _ _ _ _) h
theorem VL95_5 {nl : Nat} {Q : SV → List SO → Prop} {x1 x3 x4 : SV} {os : List SO} (h : Ev (fun n => LB95_5 (callF prg n) (n + 1) nl (n + 1 - 1) x1 x3 x4 os) Q) : Ev (fun n => L95_5 (callF prg n) (n + 1) nl (n + 1) x1 x3 x4 os) Q := UL95_5 (c := 0) h
theorem J95_6_s (K : Nat → List SV → List SO → Out) (N nl : Nat) (m5 : Nat) (x1 x3 x4 : SV) (os : List SO) : J95_6 K N nl m5 x1 x3 x4 os = JB95_6 K N nl m5 x1 x3 x4 os := by kernel_rfl
theorem UJ95_6 {nl : Nat} {Q : SV → List SO → Prop} {m5 : Nat → Nat} {x1 x3 x4 : SV} {os : List SO} (h : Ev (fun n => JB95_6 (callF prg n) (n + 1) nl (m5 n) x1 x3 x4 os) Q) : Ev (fun n => J95_6 (callF prg n) (n + 1) nl (m5 n) x1 x3 x4 os) Q := ev_eq (fun n => J95_6_s _ _ _ _ _ _ _ _) h
theorem L95_9_s (K : Nat → List SV → List SO → Out) (N nl : Nat) (m9 : Nat) (x1 x3 x5 : SV) (os : List SO) : L95_9 K N nl (m9 + 1) x1 x3 x5 os = LB95_9 K N nl m9 x1 x3 x5 os := by kernel_rfl
theorem UL95_9 {nl c : Nat} {Q : SV → List SO → Prop} {x1 x3 x5 : SV} {os : List SO} (h : Ev (fun n => LB95_9 (callF prg n) (n + 1) nl (n + 1 - (c + 1)) x1 x3 x5 os) Q) : Ev (fun n => L95_9 (callF prg n) (n + 1) nl (n + 1 - c) x1 x3 x5 os) Q := ev_loop (L := fun n m => L95_9 (callF prg n) (n + 1) nl m x1 x3 x5 os) (fun n m => L95_9_s _ _ _ _ _ _ _ _) h
theorem VL95_9 {nl : Nat} {Q : SV → List SO → Prop} {x1 x3 x5 : SV} {os : List SO} (h : Ev (fun n => LB95_9 (callF prg n) (n + 1) nl (n + 1 - 1) x1 x3 x5 os) Q) : Ev (fun n => L95_9 (callF prg n) (n + 1) nl (n + 1) x1 x3 x5 os) Q := UL95_9 (c := 0) h
theorem X95_s (K : Nat → List SV → List SO → Out) (N nl : Nat) (x0 : SV) (os : List SO) : X95 K N nl x0 os = B95 K N nl x0 os := by kernel_rfl
theorem E95 (n : Nat) (x0 : SV) (os : List SO) : callF prg (n + 1) 95 [x0] os = X95 (callF prg n) (n + 1) os.length x0 os := by kernel_rfl
theorem U95 {Q : SV → List SO → Prop} {x0 : SV} {os : List SO} {nl : Nat} (hnl : os.length = nl) (h : Ev (fun n => B95 (callF prg n) (n + 1) nl x0 os) Q) : Ev (fun n => callF prg n 95 [x0] os) Q := by subst hnl; exact ev_fun (fun n => (E95 n _ _).trans (X95_s _ _ _ _ _)) h
theorem L96_4_s (K : Nat → List SV → List SO → Out) (N nl : Nat) (m4 : Nat) (x0 x1 x6 x7 x8 x9 : SV) (os : List SO) : L96_4 K N nl (m4 + 1) x0 x1 x6 x7 x8 x9 os = gcB nl [x0, x1, x6, x7, x8, x9] os fun xs os => G96_4 K N nl m4 xs os := by kernel_rfl
theorem UL96_4 {nl c : Nat} {Q : SV → List SO → Prop} {x0 x1 x6 x7 x8 x9 : SV} {os : List SO} (h : Ev (fun n => gcB nl [x0, x1, x6, x7, x8, x9] os fun xs os => G96_4 (callF prg n) (n + 1) nl (n + 1 - (c + 1)) xs os) Q) : Ev (fun n => L96_4 (callF prg n) (n + 1) nl (n + 1 - c) x0 x1 x6 x7 x8 x9 os) Q := ev_loop (L := fun n m => L96_4 (callF prg n) (n + 1) nl m x0 x1 x6 x7 x8 x9 os) (fun n m => L96_4_s _ _ _ _ _ _ _ _ _ _ _) h
theorem VL96_4 {nl : Nat} {Q : SV → List SO → Prop} {x0 x1 x6 x7 x8 x9 : SV} {os : List SO} (h : Ev (fun n => gcB nl [x0, x1, x6, x7, x8, x9] os fun xs os => G96_4 (callF prg n) (n + 1) nl (n + 1 - 1) xs os) Q) : Ev (fun n => L96_4 (callF prg n) (n + 1) nl (n + 1) x0 x1 x6 x7 x8 x9 os) Q := UL96_4 (c := 0) h
theorem G96_4_s (K : Nat → List SV → List SO → Out) (N nl : Nat) (m4 : Nat) (x0 x1 x6 x7 x8 x9 : SV) (os : List SO) : G96_4 K N nl m4 [x0, x1, x6, x7, x8, x9] os = GB96_4 K N nl m4 x0 x1 x6 x7 x8 x9 os := by kernel_rfl
theorem UG96_4 {nl : Nat} {Q : SV → List SO → Prop} (m4 : Nat → Nat) {x0 x1 x6 x7 x8 x9 : SV} {os : List SO} (h : Ev (fun n => GB96_4 (callF prg n) (n + 1) nl (m4 n) x0 x1 x6 x7 x8 x9 os) Q) : Ev (fun n => G96_4 (callF prg n) (n + 1) nl (m4 n) [x0, x1, x6, x7, x8, x9] os) Q := ev_eq (fun n => G96_4_s _ _ _ _ _ _ _ _ _ _ _) h
theorem L96_9_s (K : Nat → List SV → List SO → Out) (N nl : Nat) (m9 : Nat) (x0 x1 x6 x7 x10 : SV) (os : List SO) : L96_9 K N nl (m9 + 1) x0 x1 x6 x7 x10 os = gcB nl [x0, x1, x6, x7, x10] os fun xs os => G96_9 K N nl m9 xs os := by kernel_rfl
theorem UL96_9 {nl c : Nat} {Q : SV → List SO → Prop} {x0 x1 x6 x7 x10 : SV} {os : List SO} (h : Ev (fun n => gcB nl [x0, x1, x6, x7, x10] os fun xs os => G96_9 (callF prg n) (n + 1) nl (n + 1 - (c + 1)) xs os) Q) : Ev (fun n => L96_9 (callF prg n) (n + 1) nl (n + 1 - c) x0 x1 x6 x7 x10 os) Q := ev_loop (L := fun n m => L96_9 (callF prg n) (n + 1) nl m x0 x1 x6 x7 x10 os) (fun n m => L96_9_s _ _ _ _ _ _ _ _ _ _) h
theorem VL96_9 {nl : Nat} {Q : SV → List SO → Prop} {x0 x1 x6 x7 x10 : SV} {os : List SO} (h : Ev (fun n => gcB nl [x0, x1, x6, x7, x10] os fun xs os => G96_9 (callF prg n) (n + 1) nl (n + 1 - 1) xs os) Q) : Ev (fun n => L96_9 (callF prg n) (n + 1) nl (n + 1) x0 x1 x6 x7 x10 os) Q := UL96_9 (c := 0) h
theorem G96_9_s (K : Nat → List SV → List SO → Out) (N nl : Nat) (m9 : Nat) (x0 x1 x6 x7 x10 : SV) (os : List SO) : G96_9 K N nl m9 [x0, x1, x6, x7, x10] os = GB96_9 K N nl m9 x0 x1 x6 x7 x10 os := by kernel_rfl
theorem UG96_9 {nl : Nat} {Q : SV → List SO → Prop} (m9 : Nat → Nat) {x0 x1 x6 x7 x10 : SV} {os : List SO} (h : Ev (fun n => GB96_9 (callF prg n) (n + 1) nl (m9 n) x0 x1 x6 x7 x10 os) Q) : Ev (fun n => G96_9 (callF prg n) (n + 1) nl (m9 n) [x0, x1, x6, x7, x10] os) Q := ev_eq (fun n => G96_9_s _ _ _ _ _ _ _ _ _ _) h
theorem J96_10_s (K : Nat → List SV → List SO → Out) (N nl : Nat) (m9 : Nat) (x0 x1 x6 x7 x10 : SV) (os : List SO) : J96_10 K N nl m9 x0 x1 x6 x7 x10 os = JB96_10 K N nl m9 x0 x1 x6 x7 x10 os := by kernel_rfl
theorem UJ96_10 {nl : Nat} {Q : SV → List SO → Prop} {m9 : Nat → Nat} {x0 x1 x6 x7 x10 : SV} {os : List SO} (h : Ev (fun n => JB96_10 (callF prg n) (n + 1) nl (m9 n) x0 x1 x6 x7 x10 os) Q) : Ev (fun n => J96_10 (callF prg n) (n + 1) nl (m9 n) x0 x1 x6 x7 x10 os) Q := ev_eq (fun n => J96_10_s _ _ _ _ _ _ _ _ _ _) h
theorem X96_s (K : Nat → List SV → List SO → Out) (N nl : Nat) (x0 x1 x2 : SV) (os : List SO) : X96 K N nl x0 x1 x2 os = B96 K N nl x0 x1 x2 os := by kernel_rfl
theorem E96 (n : Nat) (x0 x1 x2 : SV) (os : List SO) : callF prg (n + 1) 96 [x0, x1, x2] os = X96 (callF prg n) (n + 1) os.length x0 x1 x2 os := by kernel_rfl
theorem U96 {Q : SV → List SO → Prop} {x0 x1 x2 : SV} {os : List SO} {nl : Nat} (hnl : os.length = nl) (h : Ev (fun n => B96 (callF prg n) (n + 1) nl x0 x1 x2 os) Q) : Ev (fun n => callF prg n 96 [x0, x1, x2] os) Q := by subst hnl; exact ev_fun (fun n => (E96 n _ _ _ _).trans (X96_s _ _ _ _ _ _ _)) h
theorem L97_2_s (K : Nat → List SV → List SO → Out) (N nl : Nat) (m2 : Nat) (x0 x1 x2 x7 : SV) (os : List SO) : L97_2 K N nl (m2 + 1) x0 x1 x2 x7 os = LB97_2 K N nl m2 x0 x1 x2 x7 os := by kernel_rfl
theorem UL97_2 {nl c : Nat} {Q : SV → List SO → Prop} {x0 x1 x2 x7 : SV} {os : List SO} (h : Ev (fun n => LB97_2 (callF prg n) (n + 1) nl (n + 1 - (c + 1)) x0 x1 x2 x7 os) Q) : Ev (fun n => L97_2 (callF prg n) (n + 1) nl (n + 1 - c) x0 x1 x2 x7 os) Q := ev_loop (L := fun n m => L97_2 (callF prg n) (n + 1) nl m x0 x1 x2 x7 os) (fun n m => L97_2_s _ _ _ _ _ _ _ _ _) h
theorem VL97_2 {nl : Nat} {Q : SV → List SO → Prop} {x0 x1 x2 x7 : SV} {os : List SO} (h : Ev (fun n => LB97_2 (callF prg n) (n + 1) nl (n + 1 - 1) x0 x1 x2 x7 os) Q) : Ev (fun n => L97_2 (callF prg n) (n + 1) nl (n + 1) x0 x1 x2 x7 os) Q := UL97_2 (c := 0) h
theorem X97_s (K : Nat → List SV → List SO → Out) (N nl : Nat) (x0 x1 x2 : SV) (os : List SO) : X97 K N nl x0 x1 x2 os = B97 K N nl x0 x1 x2 os := by kernel_rfl
theorem E97 (n : Nat) (x0 x1 x2 : SV) (os : List SO) : callF prg (n + 1) 97 [x0, x1, x2] os = X97 (callF prg n) (n + 1) os.length x0 x1 x2 os := by kernel_rfl
theorem U97 {Q : SV → List SO → Prop} {x0 x1 x2 : SV} {os : List SO} {nl : Nat} (hnl : os.length = nl) (h : Ev (fun n => B97 (callF prg n) (n + 1) nl x0 x1 x2 os) Q) : Ev (fun n => callF prg n 97 [x0, x1, x2] os) Q := by subst hnl; exact ev_fun (fun n => (E97 n _ _ _ _).trans (X97_s _ _ _ _ _ _ _)) h
theorem L98_3_s (K : Nat → List SV → List SO → Out) (N nl : Nat) (m3 : Nat) (x0 x3 x5 x6 : SV) (os : List SO) : L98_3 K N nl (m3 + 1) x0 x3 x5 x6 os = gcB nl [x0, x3, x5, x6] os fun xs os => G98_3 K N nl m3 xs os := by kernel_rfl
theorem UL98_3 {nl c : Nat} {Q : SV → List SO → Prop} {x0 x3 x5 x6 : SV} {os : List SO} (h : Ev (fun n => gcB nl [x0, x3, x5, x6] os fun xs os => G98_3 (callF prg n) (n + 1) nl (n + 1 - (c + 1)) xs os) Q) : Ev (fun n => L98_3 (callF prg n) (n + 1) nl (n + 1 - c) x0 x3 x5 x6 os) Q := ev_loop (L := fun n m => L98_3 (callF prg n) (n + 1) nl m x0 x3 x5 x6 os) (fun n m => L98_3_s _ _ _ _ _ _ _ _ _) h
theorem VL98_3 {nl : Nat} {Q : SV → List SO → Prop} {x0 x3 x5 x6 : SV} {os : List SO} (h : Ev (fun n => gcB nl [x0, x3, x5, x6] os fun xs os => G98_3 (callF prg n) (n + 1) nl (n + 1 - 1) xs os) Q) : Ev (fun n => L98_3 (callF prg n) (n + 1) nl (n + 1) x0 x3 x5 x6 os) Q := UL98_3 (c := 0) h
theorem G98_3_s (K : Nat → List SV → List SO → Out) (N nl : Nat) (m3 : Nat) (x0 x3 x5 x6 : SV) (os : List SO) : G98_3 K N nl m3 [x0, x3, x5, x6] os = GB98_3 K N nl m3 x0 x3 x5 x6 os := by kernel_rfl
theorem UG98_3 {nl : Nat} {Q : SV → List SO → Prop} (m3 : Nat → Nat) {x0 x3 x5 x6 : SV} {os : List SO} (h : Ev (fun n => GB98_3 (callF prg n) (n + 1) nl (m3 n) x0 x3 x5 x6 os) Q) : Ev (fun n => G98_3 (callF prg n) (n + 1) nl (m3 n) [x0, x3, x5, x6] os) Q := ev_eq (fun n => G98_3_s _ _ _ _ _ _ _ _ _) h
theorem J98_4_s (K : Nat → List SV → List SO → Out) (N nl : Nat) (m3 : Nat) (x0 x3 x5 x6 : SV) (os : List SO) : J98_4 K N nl m3 x0 x3 x5 x6 os = JB98_4 K N nl m3 x0 x3 x5 x6 os := by kernel_rfl
theorem UJ98_4 {nl : Nat} {Q : SV → List SO → Prop} {m3 : Nat → Nat} {x0 x3 x5 x6 : SV} {os : List SO} (h : Ev (fun n => JB98_4 (callF prg n) (n + 1) nl (m3 n) x0 x3 x5 x6 os) Q) : Ev (fun n => J98_4 (callF prg n) (n + 1) nl (m3 n) x0 x3 x5 x6 os) Q := ev_eq (fun n => J98_4_s _ _ _ _ _ _ _ _ _) h
theorem L98_9_s (K : Nat → List SV → List SO → Out) (N nl : Nat) (m9 : Nat) (x0 x3 x5 x7 : SV) (os : List SO) : L98_9 K N nl (m9 + 1) x0 x3 x5 x7 os = gcB nl [x0, x3, x5, x7] os fun xs os => G98_9 K N nl m9 xs os := by kernel_rfl
theorem UL98_9 {nl c : Nat} {Q : SV → List SO → Prop} {x0 x3 x5 x7 : SV} {os : List SO} (h : Ev (fun n => gcB nl [x0, x3, x5, x7] os fun xs os => G98_9 (callF prg n) (n + 1) nl (n + 1 - (c + 1)) xs os) Q) : Ev (fun n => L98_9 (callF prg n) (n + 1) nl (n + 1 - c) x0 x3 x5 x7 os) Q := ev_loop (L := fun n m => L98_9 (callF prg n) (n + 1) nl m x0 x3 x5 x7 os) (fun n m => L98_9_s _ _ _ _ _ _ _ _ _) h
theorem VL98_9 {nl : Nat} {Q : SV → List SO → Prop} {x0 x3 x5 x7 : SV} {os : List SO} (h : Ev (fun n => gcB nl [x0, x3, x5, x7] os fun xs os => G98_9 (callF prg n) (n + 1) nl (n + 1 - 1) xs os) Q) : Ev (fun n => L98_9 (callF prg n) (n + 1) nl (n + 1) x0 x3 x5 x7 os) Q := UL98_9 (c := 0) h
theorem G98_9_s (K : Nat → List SV → List SO → Out) (N nl : Nat) (m9 : Nat) (x0 x3 x5 x7 : SV) (os : List SO) : G98_9 K N nl m9 [x0, x3, x5, x7] os = GB98_9 K N nl m9 x0 x3 x5 x7 os := by kernel_rfl
theorem UG98_9 {nl : Nat} {Q : SV → List SO → Prop} (m9 : Nat → Nat) {x0 x3 x5 x7 : SV} {os : List SO} (h : Ev (fun n => GB98_9 (callF prg n) (n + 1) nl (m9 n) x0 x3 x5 x7 os) Q) : Ev (fun n => G98_9 (callF prg n) (n + 1) nl (m9 n) [x0, x3, x5, x7] os) Q := ev_eq (fun n => G98_9_s _ _ _ _ _ _ _ _ _) h
theorem J98_10_s (K : Nat → List SV → List SO → Out) (N nl : Nat) (m9 : Nat) (x0 x3 x5 x7 : SV) (os : List SO) : J98_10 K N nl m9 x0 x3 x5 x7 os = JB98_10 K N nl m9 x0 x3 x5 x7 os := by kernel_rfl
theorem UJ98_10 {nl : Nat} {Q : SV → List SO → Prop} {m9 : Nat → Nat} {x0 x3 x5 x7 : SV} {os : List SO} (h : Ev (fun n => JB98_10 (callF prg n) (n + 1) nl (m9 n) x0 x3 x5 x7 os) Q) : Ev (fun n => J98_10 (callF prg n) (n + 1) nl (m9 n) x0 x3 x5 x7 os) Q := ev_eq (fun n => J98_10_s _ _ _ _ _ _ _ _ _) h
theorem X98_s (K : Nat → List SV → List SO → Out) (N nl : Nat) (x0 x1 : SV) (os : List SO) : X98 K N nl x0 x1 os = B98 K N nl x0 x1 os := by kernel_rfl
theorem E98 (n : Nat) (x0 x1 : SV) (os : List SO) : callF prg (n + 1) 98 [x0, x1] os = X98 (callF prg n) (n + 1) os.length x0 x1 os := by kernel_rfl
theorem U98 {Q : SV → List SO → Prop} {x0 x1 : SV} {os : List SO} {nl : Nat} (hnl : os.length = nl) (h : Ev (fun n => B98 (callF prg n) (n + 1) nl x0 x1 os) Q) : Ev (fun n => callF prg n 98 [x0, x1] os) Q := by subst hnl; exact ev_fun (fun n => (E98 n _ _ _).trans (X98_s _ _ _ _ _ _)) h
theorem X99_s (K : Nat → List SV → List SO → Out) (N nl : Nat) (x0 x1 : SV) (os : List SO) : X99 K N nl x0 x1 os = B99 K N nl x0 x1 os := by kernel_rfl
theorem E99 (n : Nat) (x0 x1 : SV) (os : List SO) : callF prg (n + 1) 99 [x0, x1] os = X99 (callF prg n) (n + 1) os.length x0 x1 os := by kernel_rfl
theorem U99 {Q : SV → List SO → Prop} {x0 x1 : SV} {os : List SO} {nl : Nat} (hnl : os.length = nl) (h : Ev (fun n => B99 (callF prg n) (n + 1) nl x0 x1 os) Q) : Ev (fun n => callF prg n 99 [x0, x1] os) Q := by subst hnl; exact ev_fun (fun n => (E99 n _ _ _).trans (X99_s _ _ _ _ _ _)) h
theorem X100_s (K : Nat → List SV → List SO → Out) (N nl : Nat) (x0 : SV) (os : List SO) : X100 K N nl x0 os = B100 K N nl x0 os := by kernel_rfl
theorem E100 (n : Nat) (x0 : SV) (os : List SO) : callF prg (n + 1) 100 [x0] os = X100 (callF prg n) (n + 1) os.length x0 os := by kernel_rfl
theorem U100 {Q : SV → List SO → Prop} {x0 : SV} {os : List SO} {nl : Nat} (hnl : os.length = nl) (h : Ev (fun n => B100 (callF prg n) (n + 1) nl x0 os) Q) : Ev (fun n => callF prg n 100 [x0] os) Q := by subst hnl; exact ev_fun (fun n => (E100 n _ _).trans (X100_s _ _ _ _ _)) h
theorem E101 (n : Nat) (xs : List SV) (os : List SO) : callF prg (n + 1) 101 xs os = cloneS 3 24 xs os := by kernel_rfl
theorem X102_s (K : Nat → List SV → List SO → Out) (N nl : Nat) (x0 x1 x2 x3 : SV) (os : List SO) : X102 K N nl x0 x1 x2 x3 os = B102 K N nl x0 x1 x2 x3 os := by kernel_rfl
theorem E102 (n : Nat) (x0 x1 x2 x3 : SV) (os : List SO) : callF prg (n + 1) 102 [x0, x1, x2, x3] os = X102 (callF prg n) (n + 1) os.length x0 x1 x2 x3 os := by kernel_rfl
theorem U102 {Q : SV → List SO → Prop} {x0 x1 x2 x3 : SV} {os : List SO} {nl : Nat} (hnl : os.length = nl) (h : Ev (fun n => B102 (callF prg n) (n + 1) nl x0 x1 x2 x3 os) Q) : Ev (fun n => callF prg n 102 [x0, x1, x2, x3] os) Q := by subst hnl; exact ev_fun (fun n => (E102 n _ _ _ _ _).trans (X102_s _ _ _ _ _ _ _ _)) h
theorem X103_s (K : Nat → List SV → List SO → Out) (N nl : Nat) (x0 x1 : SV) (os : List SO) : X103 K N nl x0 x1 os = B103 K N nl x0 x1 os := by kernel_rfl
theorem E103 (n : Nat) (x0 x1 : SV) (os : List SO) : callF prg (n + 1) 103 [x0, x1] os = X103 (callF prg n) (n + 1) os.length x0 x1 os := by kernel_rfl
theorem U103 {Q : SV → List SO → Prop} {x0 x1 : SV} {os : List SO} {nl : Nat} (hnl : os.length = nl) (h : Ev (fun n => B103 (callF prg n) (n + 1) nl x0 x1 os) Q) : Ev (fun n => callF prg n 103 [x0, x1] os) Q := by subst hnl; exact ev_fun (fun n => (E103 n _ _ _).trans (X103_s _ _ _ _ _ _)) h
theorem L104_3_s (K : Nat → List SV → List SO → Out) (N nl : Nat) (m3 : Nat) (x0 x1 x5 x6 : SV) (os : List SO) : L104_3 K N nl (m3 + 1) x0 x1 x5 x6 os = LB104_3 K N nl m3 x0 x1 x5 x6 os := by kernel_rfl
theorem UL104_3 {nl c : Nat} {Q : SV → List SO → Prop} {x0 x1 x5 x6 : SV} {os : List SO} (h : Ev (fun n => LB104_3 (callF prg n) (n + 1) nl (n + 1 - (c + 1)) x0 x1 x5 x6 os) Q) : Ev (fun n => L104_3 (callF prg n) (n + 1) nl (n + 1 - c) x0 x1 x5 x6 os) Q := ev_loop (L := fun n m => L104_3 (callF prg n) (n + 1) nl m x0 x1 x5 x6 os) (fun n m => L104_3_s _ _ _ _ _ _ _ _ _) h
theorem VL104_3 {nl : Nat} {Q : SV → List SO → Prop} {x0 x1 x5 x6 : SV} {os : List SO} (h : Ev (fun n => LB104_3 (callF prg n) (n + 1) nl (n + 1 - 1) x0 x1 x5 x6 os) Q) : Ev (fun n => L104_3 (callF prg n) (n + 1) nl (n + 1) x0 x1 x5 x6 os) Q := UL104_3 (c := 0) h
theorem L104_6_s (K : Nat → List SV → List SO → Out) (N nl : Nat) (m3 : Nat) (m6 : Nat) (x0 x1 x5 x6 x7 : SV) (os : List SO) : L104_6 K N nl m3 (m6 + 1) x0 x1 x5 x6 x7 os = LB104_6 K N nl m3 m6 x0 x1 x5 x6 x7 os := by kernel_rfl
theorem UL104_6 {nl c : Nat} {Q : SV → List SO → Prop} {m3 : Nat → Nat} {x0 x1 x5 x6 x7 : SV} {os : List SO} (h : Ev (fun n => LB104_6 (callF prg n) (n + 1) nl (m3 n) (n + 1 - (c + 1)) x0 x1 x5 x6 x7 os) Q) : Ev (fun n => L104_6 (callF prg n) (n + 1) nl (m3 n) (n + 1 - c) x0 x1 x5 x6 x7 os) Q := ev_loop (L := fun n m => L104_6 (callF prg n) (n + 1) nl (m3 n) m x0 x1 x5 x6 x7 os) (fun n m => L104_6_s _ _ _ _ _ _ _ _ _ _ _) h
theorem VL104_6 {nl : Nat} {Q : SV → List SO → Prop} {m3 : Nat → Nat} {x0 x1 x5 x6 x7 : SV} {os : List SO} (h : Ev (fun n => LB104_6 (callF prg n) (n + 1) nl (m3 n) (n + 1 - 1) x0 x1 x5 x6 x7 os) Q) : Ev (fun n => L104_6 (callF prg n) (n + 1) nl (m3 n) (n + 1) x0 x1 x5 x6 x7 os) Q := UL104_6 (c := 0) h
theorem J104_7_s (K : Nat → List SV → List SO → Out) (N nl : Nat) (m3 m6 : Nat) (x0 x1 x5 x6 x7 : SV) (os : List SO) : J104_7 K N nl m3 m6 x0 x1 x5 x6 x7 os = JB104_7 K N nl m3 m6 x0 x1 x5 x6 x7 os := by kernel_rfl
theorem UJ104_7 {nl : Nat} {Q : SV → List SO → Prop} {m3 : Nat → Nat} {m6 : Nat → Nat} {x0 x1 x5 x6 x7 : SV} {os : List SO} (h : Ev (fun n => JB104_7 (callF prg n) (n + 1) nl (m3 n) (m6 n) x0 x1 x5 x6 x7 os) Q) : Ev (fun n => J104_7 (callF prg n) (n + 1) nl (m3 n) (m6 n) x0 x1 x5 x6 x7 os) Q := ev_eq (fun n => J104_7_s _ _ _ _ _ _ _ _ _ _ _) h
theorem X104_s (K : Nat → List SV → List SO → Out) (N nl : Nat) (x0 x1 : SV) (os : List SO) : X104 K N nl x0 x1 os = B104 K N nl x0 x1 os := by kernel_rfl
theorem E104 (n : Nat) (x0 x1 : SV) (os : List SO) : callF prg (n + 1) 104 [x0, x1] os = X104 (callF prg n) (n + 1) os.length x0 x1 os := by kernel_rfl
theorem U104 {Q : SV → List SO → Prop} {x0 x1 : SV} {os : List SO} {nl : Nat} (hnl : os.length = nl) (h : Ev (fun n => B104 (callF prg n) (n + 1) nl x0 x1 os) Q) : Ev (fun n => callF prg n 104 [x0, x1] os) Q := by subst hnl; exact ev_fun (fun n => (E104 n _ _ _).trans (X104_s _ _ _ _ _ _)) h
theorem X105_s (K : Nat → List SV → List SO → Out) (N nl : Nat) (x0 x1 : SV) (os : List SO) : X105 K N nl x0 x1 os = B105 K N nl x0 x1 os := by kernel_rfl
theorem E105 (n : Nat) (x0 x1 : SV) (os : List SO) : callF prg (n + 1) 105 [x0, x1] os = X105 (callF prg n) (n + 1) os.length x0 x1 os := by kernel_rfl
theorem U105 {Q : SV → List SO → Prop} {x0 x1 : SV} {os : List SO} {nl : Nat} (hnl : os.length = nl) (h : Ev (fun n => B105 (callF prg n) (n + 1) nl x0 x1 os) Q) : Ev (fun n => callF prg n 105 [x0, x1] os) Q := by subst hnl; exact ev_fun (fun n => (E105 n _ _ _).trans (X105_s _ _ _ _ _ _)) h
theorem X106_s (K : Nat → List SV → List SO → Out) (N nl : Nat) (x0 x1 : SV) (os : List SO) : X106 K N nl x0 x1 os = B106 K N nl x0 x1 os := by kernel_rfl
theorem E106 (n : Nat) (x0 x1 : SV) (os : List SO) : callF prg (n + 1) 106 [x0, x1] os = X106 (callF prg n) (n + 1) os.length x0 x1 os := by kernel_rfl
theorem U106 {Q : SV → List SO → Prop} {x0 x1 : SV} {os : List SO} {nl : Nat} (hnl : os.length = nl) (h : Ev (fun n => B106 (callF prg n) (n + 1) nl x0 x1 os) Q) : Ev (fun n => callF prg n 106 [x0, x1] os) Q := by subst hnl; exact ev_fun (fun n => (E106 n _ _ _).trans (X106_s _ _ _ _ _ _)) h
theorem L107_3_s (K : Nat → List SV → List SO → Out) (N nl : Nat) (m3 : Nat) (x0 x3 x4 : SV) (os : List SO) : L107_3 K N nl (m3 + 1) x0 x3 x4 os = LB107_3 K N nl m3 x0 x3 x4 os := by kernel_rfl
theorem UL107_3 {nl c : Nat} {Q : SV → List SO → Prop} {x0 x3 x4 : SV} {os : List SO} (h : Ev (fun n => LB107_3 (callF prg n) (n + 1) nl (n + 1 - (c + 1)) x0 x3 x4 os) Q) : Ev (fun n => L107_3 (callF prg n) (n + 1) nl (n + 1 - c) x0 x3 x4 os) Q := ev_loop (L := fun n m => L107_3 (callF prg n) (n + 1) nl m x0 x3 x4 os) (fun n m => L107_3_s _ _ _ _ _ _ _ _) h
theorem VL107_3 {nl : Nat} {Q : SV → List SO → Prop} {x0 x3 x4 : SV} {os : List SO} (h : Ev (fun n => LB107_3 (callF prg n) (n + 1) nl (n + 1 - 1) x0 x3 x4 os) Q) : Ev (fun n => L107_3 (callF prg n) (n + 1) nl (n + 1) x0 x3 x4 os) Q := UL107_3 (c := 0) h
theorem X107_s (K : Nat → List SV → List SO → Out) (N nl : Nat) (x0 : SV) (os : List SO) : X107 K N nl x0 os = B107 K N nl x0 os := by kernel_rfl
theorem E107 (n : Nat) (x0 : SV) (os : List SO) : callF prg (n + 1) 107 [x0] os = X107 (callF prg n) (n + 1) os.length x0 os := by kernel_rfl
theorem U107 {Q : SV → List SO → Prop} {x0 : SV} {os : List SO} {nl : Nat} (hnl : os.length = nl) (h : Ev (fun n => B107 (callF prg n) (n + 1) nl x0 os) Q) : Ev (fun n => callF prg n 107 [x0] os) Q := by subst hnl; exact ev_fun (fun n => (E107 n _ _).trans (X107_s _ _ _ _ _)) h
theorem X108_s (K : Nat → List SV → List SO → Out) (N nl : Nat) (x0 x1 : SV) (os : List SO) : X108 K N nl x0 x1 os = B108 K N nl x0 x1 os := by kernel_rfl
theorem E108 (n : Nat) (x0 x1 : SV) (os : List SO) : callF prg (n + 1) 108 [x0, x1] os = X108 (callF prg n) (n + 1) os.length x0 x1 os := by kernel_rfl
theorem U108 {Q : SV → List SO → Prop} {x0 x1 : SV} {os : List SO} {nl : Nat} (hnl : os.length = nl) (h : Ev (fun n => B108 (callF prg n) (n + 1) nl x0 x1 os) Q) : Ev (fun n => callF prg n 108 [x0, x1] os) Q := by subst hnl; exact ev_fun (fun n => (E108 n _ _ _).trans (X108_s _ _ _ _ _ _)) h
theorem X109_s (K : Nat → List SV → List SO → Out) (N nl : Nat) (x0 : SV) (os : List SO) : X109 K N nl x0 os = B109 K N nl x0 os := by kernel_rfl
theorem E109 (n : Nat) (x0 : SV) (os : List SO) : callF prg (n + 1) 109 [x0] os = X109 (callF prg n) (n + 1) os.length x0 os := by kernel_rfl
theorem U109 {Q : SV → List SO → Prop} {x0 : SV} {os : List SO} {nl : Nat} (hnl : os.length = nl) (h : Ev (fun n => B109 (callF prg n) (n + 1) nl x0 os) Q) : Ev (fun n => callF prg n 109 [x0] os) Q := by subst hnl; exact ev_fun (fun n => (E109 n _ _).trans (X109_s _ _ _ _ _)) h
theorem X110_s (K : Nat → List SV → List SO → Out) (N nl : Nat) (x0 x1 : SV) (os : List SO) : X110 K N nl x0 x1 os = B110 K N nl x0 x1 os := by kernel_rfl
theorem E110 (n : Nat) (x0 x1 : SV) (os : List SO) : callF prg (n + 1) 110 [x0, x1] os = X110 (callF prg n) (n + 1) os.length x0 x1 os := by kernel_rfl
theorem U110 {Q : SV → List SO → Prop} {x0 x1 : SV} {os : List SO} {nl : Nat} (hnl : os.length = nl) (h : Ev (fun n => B110 (callF prg n) (n + 1) nl x0 x1 os) Q) : Ev (fun n => callF prg n 110 [x0, x1] os) Q := by subst hnl; exact ev_fun (fun n => (E110 n _ _ _).trans (X110_s _ _ _ _ _ _)) h
theorem X111_s (K : Nat → List SV → List SO → Out) (N nl : Nat) (x0 : SV) (os : List SO) : X111 K N nl x0 os = B111 K N nl x0 os := by kernel_rfl
theorem E111 (n : Nat) (x0 : SV) (os : List SO) : callF prg (n + 1) 111 [x0] os = X111 (callF prg n) (n + 1) os.length x0 os := by kernel_rfl
theorem U111 {Q : SV → List SO → Prop} {x0 : SV} {os : List SO} {nl : Nat} (hnl : os.length = nl) (h : Ev (fun n => B111 (callF prg n) (n + 1) nl x0 os) Q) : Ev (fun n => callF prg n 111 [x0] os) Q := by subst hnl; exact ev_fun (fun n => (E111 n _ _).trans (X111_s _ _ _ _ _)) h
theorem L112_2_s (K : Nat → List SV → List SO → Out) (N nl : Nat) (m2 : Nat) (x0 x1 x7 x8 : SV) (os : List SO) : L112_2 K N nl (m2 + 1) x0 x1 x7 x8 os = LB112_2 K N nl m2 x0 x1 x7 x8 os := by kernel_rfl
theorem UL112_2 {nl c : Nat} {Q : SV → List SO → Prop} {x0 x1 x7 x8 : SV} {os : List SO} (h : Ev (fun n => LB112_2 (callF prg n) (n + 1) nl (n + 1 - (c + 1)) x0 x1 x7 x8 os) Q) : Ev (fun n => L112_2 (callF prg n) (n + 1) nl (n + 1 - c) x0 x1 x7 x8 os) Q := ev_loop (L := fun n m => L112_2 (callF prg n) (n + 1) nl m x0 x1 x7 x8 os) (fun n m => L112_2_s _ _ _ _ _ _ _ _ _) h
theorem VL112_2 {nl : Nat} {Q : SV → List SO → Prop} {x0 x1 x7 x8 : SV} {os : List SO} (h : Ev (fun n => LB112_2 (callF prg n) (n + 1) nl (n + 1 - 1) x0 x1 x7 x8 os) Q) : Ev (fun n => L112_2 (callF prg n) (n + 1) nl (n + 1) x0 x1 x7 x8 os) Q := UL112_2 (c := 0) h
theorem X112_s (K : Nat → List SV → List SO → Out) (N nl : Nat) (x0 x1 : SV) (os : List SO) : X112 K N nl x0 x1 os = B112 K N nl x0 x1 os := by kernel_rfl
theorem E112 (n : Nat) (x0 x1 : SV) (os : List SO) : callF prg (n + 1) 112 [x0, x1] os = X112 (callF prg n) (n + 1) os.length x0 x1 os := by kernel_rfl
theorem U112 {Q : SV → List SO → Prop} {x0 x1 : SV} {os : List SO} {nl : Nat} (hnl : os.length = nl) (h : Ev (fun n => B112 (callF prg n) (n + 1) nl x0 x1 os) Q) : Ev (fun n => callF prg n 112 [x0, x1] os) Q := by subst hnl; exact ev_fun (fun n => (E112 n _ _ _).trans (X112_s _ _ _ _ _ _)) h
theorem X113_s (K : Nat → List SV → List SO → Out) (N nl : Nat) (x0 : SV) (os : List SO) : X113 K N nl x0 os = B113 K N nl x0 os := by kernel_rfl
theorem E113 (n : Nat) (x0 : SV) (os : List SO) : callF prg (n + 1) 113 [x0] os = X113 (callF prg n) (n + 1) os.length x0 os := by kernel_rfl
theorem U113 {Q : SV → List SO → Prop} {x0 : SV} {os : List SO} {nl : Nat} (hnl : os.length = nl) (h : Ev (fun n => B113 (callF prg n) (n + 1) nl x0 os) Q) : Ev (fun n => callF prg n 113 [x0] os) Q := by subst hnl; exact ev_fun (fun n => (E113 n _ _).trans (X113_s _ _ _ _ _)) h
theorem L114_2_s (K : Nat → List SV → List SO → Out) (N nl : Nat) (m2 : Nat) (x0 x3 : SV) (os : List SO) : L114_2 K N nl (m2 + 1) x0 x3 os = LB114_2 K N nl m2 x0 x3 os := by kernel_rfl
theorem UL114_2 {nl c : Nat} {Q : SV → List SO → Prop} {x0 x3 : SV} {os : List SO} (h : Ev (fun n => LB114_2 (callF prg n) (n + 1) nl (n + 1 - (c + 1)) x0 x3 os) Q) : Ev (fun n => L114_2 (callF prg n) (n + 1) nl (n + 1 - c) x0 x3 os) Q := ev_loop (L := fun n m => L114_2 (callF prg n) (n + 1) nl m x0 x3 os) (fun n m => L114_2_s _ _ _ _ _ _ _) h
theorem VL114_2 {nl : Nat} {Q : SV → List SO → Prop} {x0 x3 : SV} {os : List SO} (h : Ev (fun n => LB114_2 (callF prg n) (n + 1) nl (n + 1 - 1) x0 x3 os) Q) : Ev (fun n => L114_2 (callF prg n) (n + 1) nl (n + 1) x0 x3 os) Q := UL114_2 (c := 0) h
theorem X114_s (K : Nat → List SV → List SO → Out) (N nl : Nat) (x0 : SV) (os : List SO) : X114 K N nl x0 os = B114 K N nl x0 os := by kernel_rfl
theorem E114 (n : Nat) (x0 : SV) (os : List SO) : callF prg (n + 1) 114 [x0] os = X114 (callF prg n) (n + 1) os.length x0 os := by kernel_rfl
theorem U114 {Q : SV → List SO → Prop} {x0 : SV} {os : List SO} {nl : Nat} (hnl : os.length = nl) (h : Ev (fun n => B114 (callF prg n) (n + 1) nl x0 os) Q) : Ev (fun n => callF prg n 114 [x0] os) Q := by subst hnl; exact ev_fun (fun n => (E114 n _ _).trans (X114_s _ _ _ _ _)) h
theorem L115_2_s (K : Nat → List SV → List SO → Out) (N nl : Nat) (m2 : Nat) (x0 x1 x5 : SV) (os : List SO) : L115_2 K N nl (m2 + 1) x0 x1 x5 os = gcB nl [x0, x1, x5] os fun xs os => G115_2 K N nl m2 xs os := by kernel_rfl
theorem UL115_2 {nl c : Nat} {Q : SV → List SO → Prop} {x0 x1 x5 : SV} {os : List SO} (h : Ev (fun n => gcB nl [x0, x1, x5] os fun xs os => G115_2 (callF prg n) (n + 1) nl (n + 1 - (c + 1)) xs os) Q) : Ev (fun n => L115_2 (callF prg n) (n + 1) nl (n + 1 - c) x0 x1 x5 os) Q := ev_loop (L := fun n m => L115_2 (callF prg n) (n + 1) nl m x0 x1 x5 os) (fun n m => L115_2_s _ _ _ _ _ _ _ _) h
theorem VL115_2 {nl : Nat} {Q : SV → List SO → Prop} {x0 x1 x5 : SV} {os : List SO} (h : Ev (fun n => gcB nl [x0, x1, x5] os fun xs os => G115_2 (callF prg n) (n + 1) nl (n + 1 - 1) xs os) Q) : Ev (fun n => L115_2 (callF prg n) (n + 1) nl (n + 1) x0 x1 x5 os) Q := UL115_2 (c := 0) h
theorem G115_2_s (K : Nat → List SV → List SO → Out) (N nl : Nat) (m2 : Nat) (x0 x1 x5 : SV) (os : List SO) : G115_2 K N nl m2 [x0, x1, x5] os = GB115_2 K N nl m2 x0 x1 x5 os := by kernel_rfl
theorem UG115_2 {nl : Nat} {Q : SV → List SO → Prop} (m2 : Nat → Nat) {x0 x1 x5 : SV} {os : List SO} (h : Ev (fun n => GB115_2 (callF prg n) (n + 1) nl (m2 n) x0 x1 x5 os) Q) : Ev (fun n => G115_2 (callF prg n) (n + 1) nl (m2 n) [x0, x1, x5] os) Q := ev_eq (fun n => G115_2_s _ _ _ _ _ _ _ _) h
theorem X115_s (K : Nat → List SV → List SO → Out) (N nl : Nat) (x0 x1 : SV) (os : List SO) : X115 K N nl x0 x1 os = B115 K N nl x0 x1 os := by kernel_rfl
theorem E115 (n : Nat) (x0 x1 : SV) (os : List SO) : callF prg (n + 1) 115 [x0, x1] os = X115 (callF prg n) (n + 1) os.length x0 x1 os := by kernel_rfl
theorem U115 {Q : SV → List SO → Prop} {x0 x1 : SV} {os : List SO} {nl : Nat} (hnl : os.length = nl) (h : Ev (fun n => B115 (callF prg n) (n + 1) nl x0 x1 os) Q) : Ev (fun n => callF prg n 115 [x0, x1] os) Q := by subst hnl; exact ev_fun (fun n => (E115 n _ _ _).trans (X115_s _ _ _ _ _ _)) h
end Go.Proofs.Ytjfegdlgepbjoaa
