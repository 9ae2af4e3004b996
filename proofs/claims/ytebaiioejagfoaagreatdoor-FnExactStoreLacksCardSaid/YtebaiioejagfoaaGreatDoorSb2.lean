/- The evaluator S and what it says of functions: Sb2. -/
import Derived.Test.YtebaiioejagfoaaGreatDoorSb1
import Derived.Test.YtebaiioejagfoaaGreatDoorProg
import Derived.KernelRfl
/- The evaluator S: the functions of this seat, read chunk by chunk (2). -/
namespace Go.Proofs.YtebaiioejagfoaaGreatDoor
open Go
set_option linter.unusedVariables false
set_option maxRecDepth 100000
noncomputable def X93 (K : Nat → List SV → List SO → Out) (N nl : Nat) (x0 x1 : SV) (os : List SO) : Out := exec (cx K) N nl fi93 c93 [(0, x0), (1, x1)] os (kEnd tab [] nl rs93)
noncomputable def B93 (K : Nat → List SV → List SO → Out) (N nl : Nat) (x0 x1 : SV) (os : List SO) : Out :=
 bd (boxS tab os 28 (some x0)) fun v1 o1 =>
 bd (boxS tab o1 28 (some x1)) fun v2 o2 =>
 bd (ret1 (fieldAddrS tab 28 v1 0) o2) fun v3 o3 =>
 bd (ret1 (loadS tab o3 3 v3) o3) fun v4 o4 =>
 bd (ret1 (fieldAddrS tab 28 v2 0) o4) fun v5 o5 =>
 bd (ret1 (loadS tab o5 3 v5) o5) fun v6 o6 =>
 bd (ret1 (binS tab .eql 3 v4 v6) o6) fun v7 o7 =>
 bd (gd v7 true (ret1 (fieldAddrS tab 28 v1 1) o7) o7) fun v8 o8 =>
 bd (gd v7 true (ret1 (loadS tab o8 3 v8) o8) o8) fun v9 o9 =>
 bd (gd v7 true (ret1 (fieldAddrS tab 28 v2 1) o9) o9) fun v10 o10 =>
 bd (gd v7 true (ret1 (loadS tab o10 3 v10) o10) o10) fun v11 o11 =>
 bd (gd v7 true (ret1 (binS tab .eql 3 v9 v11) o11) o11) fun v12 o12 =>
 bd (ret1 (pickS v7 v12 (SV.v (.bool false))) o12) fun v13 o13 =>
 bd (gd v13 true (ret1 (fieldAddrS tab 28 v1 2) o13) o13) fun v14 o14 =>
 bd (gd v13 true (ret1 (loadS tab o14 26 v14) o14) o14) fun v15 o15 =>
 bd (gd v13 true (ret1 (fieldAddrS tab 28 v2 2) o15) o15) fun v16 o16 =>
 bd (gd v13 true (ret1 (loadS tab o16 26 v16) o16) o16) fun v17 o17 =>
 bd (gd v13 true (callS ⟨tab, ownF, K⟩ o17 116 [v15, v17]) o17) fun v18 o18 =>
 bd (ret1 (pickS v13 v18 (SV.v (.bool false))) o18) fun v19 o19 =>
 retV tab nl o19 (resC1 (some v19) (some []))
noncomputable def bk94_2 (K : Nat → List SV → List SO → Out) (N nl : Nat) (m2 : Nat) : Env → List SO → Out := fun env os => loopS nl (fi94.lp 2) (fun env os nx => exec (cx K) N nl fi94 (subC c94 [1, 0, 1, 0, 0]) env os (kLoop nx (kBlock 0 (kSeq (exec (cx K) N nl fi94 (subC c94 [1, 1])) (fi94.jn 7) (kEnd tab [] nl rs94))))) m2 (killS (fi94.lp 2).alive env) os
noncomputable def L94_2 (K : Nat → List SV → List SO → Out) (N nl : Nat) (m2 : Nat) (x0 x1 x7 x8 : SV) (os : List SO) : Out := loopS nl (fi94.lp 2) (fun env os nx => exec (cx K) N nl fi94 (subC c94 [1, 0, 1, 0, 0]) env os (kLoop nx (kBlock 0 (kSeq (exec (cx K) N nl fi94 (subC c94 [1, 1])) (fi94.jn 7) (kEnd tab [] nl rs94))))) m2 [(0, x0), (1, x1), (7, x7), (8, x8)] os
noncomputable def LB94_2 (K : Nat → List SV → List SO → Out) (N nl : Nat) (m2 : Nat) (x0 x1 x7 x8 : SV) (os : List SO) : Out :=
 bd (ret1 (binS tab .lss 3 x8 x7) os) fun v2 o2 =>
 condS v2 (bd (ret1 (indexAddrS tab o2 23 x0 x8) o2) fun v3 o3 =>
 bd (ret1 (loadS tab o3 35 v3) o3) fun v4 o4 =>
 bd (calleeS ⟨tab, ownF, K⟩ o4 x1 [v4]) fun v5 o5 =>
 condS v5 (retV tab nl o5 (resC1 (some x8) (some [])))
 (bd (ret1 (binS tab .add 3 x8 (SV.v (.int .i64 1))) o5) fun v6 o6 =>
 L94_2 K N nl m2 x0 x1 x7 v6 o6))
 (retV tab nl o2 (resC1 (some (SV.v (.int .i64 (-1)))) (some [])))
noncomputable def X94 (K : Nat → List SV → List SO → Out) (N nl : Nat) (x0 x1 : SV) (os : List SO) : Out := exec (cx K) N nl fi94 c94 [(0, x0), (1, x1)] os (kEnd tab [] nl rs94)
noncomputable def B94 (K : Nat → List SV → List SO → Out) (N nl : Nat) (x0 x1 : SV) (os : List SO) : Out :=
 bd (lenO tab 23 os x0) fun v1 o1 =>
 L94_2 K N nl N x0 x1 v1 (SV.v (.int .i64 0)) o1
noncomputable def bk95_4 (K : Nat → List SV → List SO → Out) (N nl : Nat) (m4 : Nat) : Env → List SO → Out := fun env os => loopS nl (fi95.lp 4) (fun env os nx => exec (cx K) N nl fi95 (subC c95 [1, 1, 0, 1, 0, 0]) env os (kLoop nx (kBlock 0 (kSeq (exec (cx K) N nl fi95 (subC c95 [1, 1, 1])) (fi95.jn 8) (kEnd tab [] nl rs95))))) m4 (killS (fi95.lp 4).alive env) os
noncomputable def L95_4 (K : Nat → List SV → List SO → Out) (N nl : Nat) (m4 : Nat) (x0 x1 x5 : SV) (os : List SO) : Out := loopS nl (fi95.lp 4) (fun env os nx => exec (cx K) N nl fi95 (subC c95 [1, 1, 0, 1, 0, 0]) env os (kLoop nx (kBlock 0 (kSeq (exec (cx K) N nl fi95 (subC c95 [1, 1, 1])) (fi95.jn 8) (kEnd tab [] nl rs95))))) m4 [(0, x0), (1, x1), (5, x5)] os
noncomputable def LB95_4 (K : Nat → List SV → List SO → Out) (N nl : Nat) (m4 : Nat) (x0 x1 x5 : SV) (os : List SO) : Out :=
 bd (lenO tab 43 os x0) fun v4 o4 =>
 bd (ret1 (binS tab .lss 3 x5 v4) o4) fun v5 o5 =>
 condS v5 (bd (ret1 (indexAddrS tab o5 43 x0 x5) o5) fun v6 o6 =>
 bd (ret1 (loadS tab o6 3 v6) o6) fun v7 o7 =>
 bd (ret1 (indexAddrS tab o7 43 x1 x5) o7) fun v8 o8 =>
 bd (ret1 (loadS tab o8 3 v8) o8) fun v9 o9 =>
 bd (ret1 (binS tab .neq 3 v7 v9) o9) fun v10 o10 =>
 condS v10 (retV tab nl o10 (resC1 (some (SV.v (.bool false))) (some [])))
 (bd (ret1 (binS tab .add 3 x5 (SV.v (.int .i64 1))) o10) fun v11 o11 =>
 L95_4 K N nl m4 x0 x1 v11 o11))
 (retV tab nl o5 (resC1 (some (SV.v (.bool true))) (some [])))
noncomputable def X95 (K : Nat → List SV → List SO → Out) (N nl : Nat) (x0 x1 : SV) (os : List SO) : Out := exec (cx K) N nl fi95 c95 [(0, x0), (1, x1)] os (kEnd tab [] nl rs95)
noncomputable def B95 (K : Nat → List SV → List SO → Out) (N nl : Nat) (x0 x1 : SV) (os : List SO) : Out :=
 bd (lenO tab 43 os x0) fun v1 o1 =>
 bd (lenO tab 43 o1 x1) fun v2 o2 =>
 bd (ret1 (binS tab .neq 3 v1 v2) o2) fun v3 o3 =>
 condS v3 (retV tab nl o3 (resC1 (some (SV.v (.bool false))) (some [])))
 (L95_4 K N nl N x0 x1 (SV.v (.int .i64 0)) o3)
noncomputable def bk96_4 (K : Nat → List SV → List SO → Out) (N nl : Nat) (m4 : Nat) : Env → List SO → Out := fun env os => loopS nl (fi96.lp 4) (fun env os nx => exec (cx K) N nl fi96 (subC c96 [1, 1, 0, 1, 0, 0]) env os (kLoop nx (kBlock 0 (kSeq (exec (cx K) N nl fi96 (subC c96 [1, 1, 1])) (fi96.jn 8) (kEnd tab [] nl rs96))))) m4 (killS (fi96.lp 4).alive env) os
noncomputable def L96_4 (K : Nat → List SV → List SO → Out) (N nl : Nat) (m4 : Nat) (x0 x1 x5 : SV) (os : List SO) : Out := loopS nl (fi96.lp 4) (fun env os nx => exec (cx K) N nl fi96 (subC c96 [1, 1, 0, 1, 0, 0]) env os (kLoop nx (kBlock 0 (kSeq (exec (cx K) N nl fi96 (subC c96 [1, 1, 1])) (fi96.jn 8) (kEnd tab [] nl rs96))))) m4 [(0, x0), (1, x1), (5, x5)] os
noncomputable def LB96_4 (K : Nat → List SV → List SO → Out) (N nl : Nat) (m4 : Nat) (x0 x1 x5 : SV) (os : List SO) : Out :=
 bd (lenO tab 32 os x0) fun v4 o4 =>
 bd (ret1 (binS tab .lss 3 x5 v4) o4) fun v5 o5 =>
 condS v5 (bd (ret1 (indexAddrS tab o5 32 x0 x5) o5) fun v6 o6 =>
 bd (ret1 (loadS tab o6 88 v6) o6) fun v7 o7 =>
 bd (ret1 (indexAddrS tab o7 32 x1 x5) o7) fun v8 o8 =>
 bd (ret1 (loadS tab o8 88 v8) o8) fun v9 o9 =>
 bd (callS ⟨tab, ownF, K⟩ o9 117 [v7, v9]) fun v10 o10 =>
 bd (ret1 (unS .not v10) o10) fun v11 o11 =>
 condS v11 (retV tab nl o11 (resC1 (some (SV.v (.bool false))) (some [])))
 (bd (ret1 (binS tab .add 3 x5 (SV.v (.int .i64 1))) o11) fun v12 o12 =>
 L96_4 K N nl m4 x0 x1 v12 o12))
 (retV tab nl o5 (resC1 (some (SV.v (.bool true))) (some [])))
noncomputable def X96 (K : Nat → List SV → List SO → Out) (N nl : Nat) (x0 x1 : SV) (os : List SO) : Out := exec (cx K) N nl fi96 c96 [(0, x0), (1, x1)] os (kEnd tab [] nl rs96)
noncomputable def B96 (K : Nat → List SV → List SO → Out) (N nl : Nat) (x0 x1 : SV) (os : List SO) : Out :=
 bd (lenO tab 32 os x0) fun v1 o1 =>
 bd (lenO tab 32 o1 x1) fun v2 o2 =>
 bd (ret1 (binS tab .neq 3 v1 v2) o2) fun v3 o3 =>
 condS v3 (retV tab nl o3 (resC1 (some (SV.v (.bool false))) (some [])))
 (L96_4 K N nl N x0 x1 (SV.v (.int .i64 0)) o3)
noncomputable def bk97_4 (K : Nat → List SV → List SO → Out) (N nl : Nat) (m4 : Nat) : Env → List SO → Out := fun env os => loopS nl (fi97.lp 4) (fun env os nx => exec (cx K) N nl fi97 (subC c97 [1, 1, 0, 1, 0, 0]) env os (kLoop nx (kBlock 0 (kSeq (exec (cx K) N nl fi97 (subC c97 [1, 1, 1])) (fi97.jn 8) (kEnd tab [] nl rs97))))) m4 (killS (fi97.lp 4).alive env) os
noncomputable def L97_4 (K : Nat → List SV → List SO → Out) (N nl : Nat) (m4 : Nat) (x0 x1 x5 : SV) (os : List SO) : Out := loopS nl (fi97.lp 4) (fun env os nx => exec (cx K) N nl fi97 (subC c97 [1, 1, 0, 1, 0, 0]) env os (kLoop nx (kBlock 0 (kSeq (exec (cx K) N nl fi97 (subC c97 [1, 1, 1])) (fi97.jn 8) (kEnd tab [] nl rs97))))) m4 [(0, x0), (1, x1), (5, x5)] os
noncomputable def LB97_4 (K : Nat → List SV → List SO → Out) (N nl : Nat) (m4 : Nat) (x0 x1 x5 : SV) (os : List SO) : Out :=
 bd (lenO tab 33 os x0) fun v4 o4 =>
 bd (ret1 (binS tab .lss 3 x5 v4) o4) fun v5 o5 =>
 condS v5 (bd (ret1 (indexAddrS tab o5 33 x0 x5) o5) fun v6 o6 =>
 bd (ret1 (loadS tab o6 91 v6) o6) fun v7 o7 =>
 bd (ret1 (indexAddrS tab o7 33 x1 x5) o7) fun v8 o8 =>
 bd (ret1 (loadS tab o8 91 v8) o8) fun v9 o9 =>
 bd (callS ⟨tab, ownF, K⟩ o9 118 [v7, v9]) fun v10 o10 =>
 bd (ret1 (unS .not v10) o10) fun v11 o11 =>
 condS v11 (retV tab nl o11 (resC1 (some (SV.v (.bool false))) (some [])))
 (bd (ret1 (binS tab .add 3 x5 (SV.v (.int .i64 1))) o11) fun v12 o12 =>
 L97_4 K N nl m4 x0 x1 v12 o12))
 (retV tab nl o5 (resC1 (some (SV.v (.bool true))) (some [])))
noncomputable def X97 (K : Nat → List SV → List SO → Out) (N nl : Nat) (x0 x1 : SV) (os : List SO) : Out := exec (cx K) N nl fi97 c97 [(0, x0), (1, x1)] os (kEnd tab [] nl rs97)
noncomputable def B97 (K : Nat → List SV → List SO → Out) (N nl : Nat) (x0 x1 : SV) (os : List SO) : Out :=
 bd (lenO tab 33 os x0) fun v1 o1 =>
 bd (lenO tab 33 o1 x1) fun v2 o2 =>
 bd (ret1 (binS tab .neq 3 v1 v2) o2) fun v3 o3 =>
 condS v3 (retV tab nl o3 (resC1 (some (SV.v (.bool false))) (some [])))
 (L97_4 K N nl N x0 x1 (SV.v (.int .i64 0)) o3)
noncomputable def bk98_2 (K : Nat → List SV → List SO → Out) (N nl : Nat) (m2 : Nat) : Env → List SO → Out := fun env os => loopS nl (fi98.lp 2) (fun env os nx => exec (cx K) N nl fi98 (subC c98 [1, 0, 1, 0, 0]) env os (kLoop nx (kBlock 0 (kSeq (exec (cx K) N nl fi98 (subC c98 [1, 1])) (fi98.jn 6) (kEnd tab [] nl rs98))))) m2 (killS (fi98.lp 2).alive env) os
noncomputable def L98_2 (K : Nat → List SV → List SO → Out) (N nl : Nat) (m2 : Nat) (x0 x1 x5 : SV) (os : List SO) : Out := loopS nl (fi98.lp 2) (fun env os nx => exec (cx K) N nl fi98 (subC c98 [1, 0, 1, 0, 0]) env os (kLoop nx (kBlock 0 (kSeq (exec (cx K) N nl fi98 (subC c98 [1, 1])) (fi98.jn 6) (kEnd tab [] nl rs98))))) m2 [(0, x0), (1, x1), (5, x5)] os
noncomputable def LB98_2 (K : Nat → List SV → List SO → Out) (N nl : Nat) (m2 : Nat) (x0 x1 x5 : SV) (os : List SO) : Out :=
 bd (lenO tab 43 os x0) fun v1 o1 =>
 bd (ret1 (binS tab .lss 3 x5 v1) o1) fun v2 o2 =>
 condS v2 (bd (ret1 (indexAddrS tab o2 43 x0 x5) o2) fun v3 o3 =>
 bd (storeO tab o3 3 v3 (some x1)) fun v4 o4 =>
 bd (ret1 (binS tab .add 3 x1 (SV.v (.int .i64 1))) o4) fun v5 o5 =>
 bd (ret1 (binS tab .add 3 x5 (SV.v (.int .i64 1))) o5) fun v6 o6 =>
 L98_2 K N nl m2 x0 v5 v6 o6)
 (retV tab nl o2 (resC1 (some x1) (some [])))
noncomputable def X98 (K : Nat → List SV → List SO → Out) (N nl : Nat) (x0 x1 : SV) (os : List SO) : Out := exec (cx K) N nl fi98 c98 [(0, x0), (1, x1)] os (kEnd tab [] nl rs98)
noncomputable def B98 (K : Nat → List SV → List SO → Out) (N nl : Nat) (x0 x1 : SV) (os : List SO) : Out :=
 L98_2 K N nl N x0 x1 (SV.v (.int .i64 0)) os
noncomputable def bk99_4 (K : Nat → List SV → List SO → Out) (N nl : Nat) (m4 : Nat) : Env → List SO → Out := fun env os => loopS nl (fi99.lp 4) (fun env os nx => exec (cx K) N nl fi99 (subC c99 [1, 1, 1, 0, 1, 0, 0]) env os (kLoop nx (kBlock 0 (kSeq (exec (cx K) N nl fi99 (subC c99 [1, 1, 1, 1])) (fi99.jn 8) (kEnd tab [] nl rs99))))) m4 (killS (fi99.lp 4).alive env) os
noncomputable def bk99_9 (K : Nat → List SV → List SO → Out) (N nl : Nat) (m9 : Nat) : Env → List SO → Out := fun env os => loopS nl (fi99.lp 9) (fun env os nx => exec (cx K) N nl fi99 (subC c99 [1, 1, 1, 1, 0, 1, 0, 0]) env os (kLoop nx (kBlock 2 (kSeq (exec (cx K) N nl fi99 (subC c99 [1, 1, 1, 1, 1])) (fi99.jn 13) (kEnd tab [] nl rs99))))) m9 (killS (fi99.lp 9).alive env) os
noncomputable def bk100_3 (K : Nat → List SV → List SO → Out) (N nl : Nat) (m3 : Nat) : Env → List SO → Out := fun env os => loopS nl (fi100.lp 3) (fun env os nx => exec (cx K) N nl fi100 (subC c100 [1, 1, 0, 1, 0, 0]) env os (kLoop nx (kBlock 0 (kSeq (exec (cx K) N nl fi100 (subC c100 [1, 1, 1])) (fi100.jn 7) (kEnd tab [] nl rs100))))) m3 (killS (fi100.lp 3).alive env) os
noncomputable def bk100_9 (K : Nat → List SV → List SO → Out) (N nl : Nat) (m9 : Nat) : Env → List SO → Out := fun env os => loopS nl (fi100.lp 9) (fun env os nx => exec (cx K) N nl fi100 (subC c100 [1, 1, 1, 1, 0, 1, 0, 0]) env os (kLoop nx (kBlock 2 (kSeq (exec (cx K) N nl fi100 (subC c100 [1, 1, 1, 1, 1])) (fi100.jn 13) (kEnd tab [] nl rs100))))) m9 (killS (fi100.lp 9).alive env) os
noncomputable def bk101_2 (K : Nat → List SV → List SO → Out) (N nl : Nat) (m2 : Nat) : Env → List SO → Out := fun env os => loopS nl (fi101.lp 2) (fun env os nx => exec (cx K) N nl fi101 (subC c101 [1, 0, 1, 0, 0]) env os (kLoop nx (kBlock 0 (kSeq (exec (cx K) N nl fi101 (subC c101 [1, 1])) (fi101.jn 6) (kEnd tab [] nl rs101))))) m2 (killS (fi101.lp 2).alive env) os
noncomputable def L101_2 (K : Nat → List SV → List SO → Out) (N nl : Nat) (m2 : Nat) (x0 x3 : SV) (os : List SO) : Out := loopS nl (fi101.lp 2) (fun env os nx => exec (cx K) N nl fi101 (subC c101 [1, 0, 1, 0, 0]) env os (kLoop nx (kBlock 0 (kSeq (exec (cx K) N nl fi101 (subC c101 [1, 1])) (fi101.jn 6) (kEnd tab [] nl rs101))))) m2 [(0, x0), (3, x3)] os
noncomputable def LB101_2 (K : Nat → List SV → List SO → Out) (N nl : Nat) (m2 : Nat) (x0 x3 : SV) (os : List SO) : Out :=
 bd (lenO tab 32 os x0) fun v1 o1 =>
 bd (ret1 (binS tab .lss 3 x3 v1) o1) fun v2 o2 =>
 condS v2 (bd (ret1 (indexAddrS tab o2 32 x0 x3) o2) fun v3 o3 =>
 bd (ret1 (fieldAddrS tab 88 v3 0) o3) fun v4 o4 =>
 bd (ret1 (loadS tab o4 3 v4) o4) fun v5 o5 =>
 bd (callS ⟨tab, ownF, K⟩ o5 73 [v5, (SV.v (.int .i64 0)), (SV.v (.int .i64 5))]) fun v6 o6 =>
 bd (ret1 (unS .not v6) o6) fun v7 o7 =>
 bd (gd v7 false (some (x0, o7)) o7) fun v8 o8 =>
 bd (gd v7 false (some (x3, o8)) o8) fun v9 o9 =>
 bd (gd v7 false (ret1 (indexAddrS tab o9 32 v8 v9) o9) o9) fun v10 o10 =>
 bd (gd v7 false (ret1 (fieldAddrS tab 88 v10 1) o10) o10) fun v11 o11 =>
 bd (gd v7 false (ret1 (loadS tab o11 3 v11) o11) o11) fun v12 o12 =>
 bd (gd v7 false (callS ⟨tab, ownF, K⟩ o12 73 [v12, (SV.v (.int .i64 0)), (SV.v (.int .i64 9))]) o12) fun v13 o13 =>
 bd (gd v7 false (ret1 (unS .not v13) o13) o13) fun v14 o14 =>
 bd (ret1 (pickS v7 (SV.v (.bool true)) v14) o14) fun v15 o15 =>
 bd (gd v15 false (some (x3, o15)) o15) fun v16 o16 =>
 bd (gd v15 false (ret1 (binS tab .gtr 3 v16 (SV.v (.int .i64 0))) o16) o16) fun v17 o17 =>
 bd (gd v15 false (some (v17, o17)) o17) fun v18 o18 =>
 bd (gd v18 true (some (x0, o18)) o18) fun v19 o19 =>
 bd (gd v18 true (some (x3, o19)) o19) fun v20 o20 =>
 bd (gd v18 true (ret1 (binS tab .sub 3 v20 (SV.v (.int .i64 1))) o20) o20) fun v21 o21 =>
 bd (gd v18 true (ret1 (indexAddrS tab o21 32 v19 v21) o21) o21) fun v22 o22 =>
 bd (gd v18 true (ret1 (fieldAddrS tab 88 v22 0) o22) o22) fun v23 o23 =>
 bd (gd v18 true (ret1 (loadS tab o23 3 v23) o23) o23) fun v24 o24 =>
 bd (gd v18 true (some (x0, o24)) o24) fun v25 o25 =>
 bd (gd v18 true (some (x3, o25)) o25) fun v26 o26 =>
 bd (gd v18 true (ret1 (indexAddrS tab o26 32 v25 v26) o26) o26) fun v27 o27 =>
 bd (gd v18 true (ret1 (fieldAddrS tab 88 v27 0) o27) o27) fun v28 o28 =>
 bd (gd v18 true (ret1 (loadS tab o28 3 v28) o28) o28) fun v29 o29 =>
 bd (gd v18 true (ret1 (binS tab .geq 3 v24 v29) o29) o29) fun v30 o30 =>
 bd (gd v15 false (ret1 (pickS v18 v30 (SV.v (.bool false))) o30) o30) fun v31 o31 =>
 bd (ret1 (pickS v15 (SV.v (.bool true)) v31) o31) fun v32 o32 =>
 condS v32 (retV tab nl o32 (resC1 (some (SV.v (.bool false))) (some [])))
 (bd (ret1 (binS tab .add 3 x3 (SV.v (.int .i64 1))) o32) fun v33 o33 =>
 L101_2 K N nl m2 x0 v33 o33))
 (bd (lenO tab 32 o2 x0) fun v34 o34 =>
 bd (ret1 (binS tab .leq 3 v34 (SV.v (.int .i64 2))) o34) fun v35 o35 =>
 retV tab nl o35 (resC1 (some v35) (some [])))
noncomputable def X101 (K : Nat → List SV → List SO → Out) (N nl : Nat) (x0 : SV) (os : List SO) : Out := exec (cx K) N nl fi101 c101 [(0, x0)] os (kEnd tab [] nl rs101)
noncomputable def B101 (K : Nat → List SV → List SO → Out) (N nl : Nat) (x0 : SV) (os : List SO) : Out :=
 L101_2 K N nl N x0 (SV.v (.int .i64 0)) os
noncomputable def bk102_2 (K : Nat → List SV → List SO → Out) (N nl : Nat) (m2 : Nat) : Env → List SO → Out := fun env os => loopS nl (fi102.lp 2) (fun env os nx => exec (cx K) N nl fi102 (subC c102 [1, 0, 1, 0, 0]) env os (kLoop nx (kBlock 0 (kSeq (exec (cx K) N nl fi102 (subC c102 [1, 1])) (fi102.jn 7) (kEnd tab [] nl rs102))))) m2 (killS (fi102.lp 2).alive env) os
noncomputable def L102_2 (K : Nat → List SV → List SO → Out) (N nl : Nat) (m2 : Nat) (x0 x1 x5 : SV) (os : List SO) : Out := loopS nl (fi102.lp 2) (fun env os nx => exec (cx K) N nl fi102 (subC c102 [1, 0, 1, 0, 0]) env os (kLoop nx (kBlock 0 (kSeq (exec (cx K) N nl fi102 (subC c102 [1, 1])) (fi102.jn 7) (kEnd tab [] nl rs102))))) m2 [(0, x0), (1, x1), (5, x5)] os
noncomputable def G102_2 (K : Nat → List SV → List SO → Out) (N nl : Nat) (m2 : Nat) (xs : List SV) (os : List SO) : Out := (fun env os nx => exec (cx K) N nl fi102 (subC c102 [1, 0, 1, 0, 0]) env os (kLoop nx (kBlock 0 (kSeq (exec (cx K) N nl fi102 (subC c102 [1, 1])) (fi102.jn 7) (kEnd tab [] nl rs102))))) (zipE [0, 1, 5] xs) os (bk102_2 K N nl m2)
noncomputable def GB102_2 (K : Nat → List SV → List SO → Out) (N nl : Nat) (m2 : Nat) (x0 x1 x5 : SV) (os : List SO) : Out :=
 bd (lenO tab 33 os x1) fun v1 o1 =>
 bd (ret1 (binS tab .lss 3 x5 v1) o1) fun v2 o2 =>
 condS v2 (bd (ret1 (indexAddrS tab o2 33 x1 x5) o2) fun v3 o3 =>
 bd (ret1 (loadS tab o3 91 v3) o3) fun v4 o4 =>
 bd (allocS tab o4 91) fun v5 o5 =>
 bd (storeO tab o5 91 v5 (some v4)) fun v6 o6 =>
 bd (ret1 (fieldAddrS tab 91 v5 0) o6) fun v7 o7 =>
 bd (ret1 (loadS tab o7 3 v7) o7) fun v8 o8 =>
 bd (callS ⟨tab, ownF, K⟩ o8 73 [v8, (SV.v (.int .i64 1)), (SV.v (.int .i64 4))]) fun v9 o9 =>
 bd (ret1 (unS .not v9) o9) fun v10 o10 =>
 bd (gd v10 false (ret1 (fieldAddrS tab 91 v5 0) o10) o10) fun v11 o11 =>
 bd (gd v10 false (ret1 (loadS tab o11 3 v11) o11) o11) fun v12 o12 =>
 bd (gd v10 false (some (x0, o12)) o12) fun v13 o13 =>
 bd (gd v10 false (ret1 (binS tab .eql 3 v12 v13) o13) o13) fun v14 o14 =>
 bd (ret1 (pickS v10 (SV.v (.bool true)) v14) o14) fun v15 o15 =>
 bd (gd v15 false (ret1 (fieldAddrS tab 91 v5 1) o15) o15) fun v16 o16 =>
 bd (gd v15 false (ret1 (loadS tab o16 3 v16) o16) o16) fun v17 o17 =>
 bd (gd v15 false (callS ⟨tab, ownF, K⟩ o17 73 [v17, (SV.v (.int .i64 1)), (SV.v (.int .i64 5))]) o17) fun v18 o18 =>
 bd (gd v15 false (ret1 (unS .not v18) o18) o18) fun v19 o19 =>
 bd (ret1 (pickS v15 (SV.v (.bool true)) v19) o19) fun v20 o20 =>
 bd (gd v20 false (some (x5, o20)) o20) fun v21 o21 =>
 bd (gd v20 false (ret1 (binS tab .gtr 3 v21 (SV.v (.int .i64 0))) o21) o21) fun v22 o22 =>
 bd (gd v20 false (some (v22, o22)) o22) fun v23 o23 =>
 bd (gd v23 true (some (x1, o23)) o23) fun v24 o24 =>
 bd (gd v23 true (some (x5, o24)) o24) fun v25 o25 =>
 bd (gd v23 true (ret1 (binS tab .sub 3 v25 (SV.v (.int .i64 1))) o25) o25) fun v26 o26 =>
 bd (gd v23 true (ret1 (indexAddrS tab o26 33 v24 v26) o26) o26) fun v27 o27 =>
 bd (gd v23 true (ret1 (fieldAddrS tab 91 v27 0) o27) o27) fun v28 o28 =>
 bd (gd v23 true (ret1 (loadS tab o28 3 v28) o28) o28) fun v29 o29 =>
 bd (gd v23 true (ret1 (fieldAddrS tab 91 v5 0) o29) o29) fun v30 o30 =>
 bd (gd v23 true (ret1 (loadS tab o30 3 v30) o30) o30) fun v31 o31 =>
 bd (gd v23 true (ret1 (binS tab .geq 3 v29 v31) o31) o31) fun v32 o32 =>
 bd (gd v20 false (ret1 (pickS v23 v32 (SV.v (.bool false))) o32) o32) fun v33 o33 =>
 bd (ret1 (pickS v20 (SV.v (.bool true)) v33) o33) fun v34 o34 =>
 condS v34 (retV tab nl o34 (resC1 (some (SV.v (.bool false))) (some [])))
 (bd (ret1 (binS tab .add 3 x5 (SV.v (.int .i64 1))) o34) fun v35 o35 =>
 L102_2 K N nl m2 x0 x1 v35 o35))
 (bd (lenO tab 33 o2 x1) fun v36 o36 =>
 bd (ret1 (binS tab .leq 3 v36 (SV.v (.int .i64 2))) o36) fun v37 o37 =>
 retV tab nl o37 (resC1 (some v37) (some [])))
noncomputable def X102 (K : Nat → List SV → List SO → Out) (N nl : Nat) (x0 x1 : SV) (os : List SO) : Out := exec (cx K) N nl fi102 c102 [(0, x0), (1, x1)] os (kEnd tab [] nl rs102)
noncomputable def B102 (K : Nat → List SV → List SO → Out) (N nl : Nat) (x0 x1 : SV) (os : List SO) : Out :=
 L102_2 K N nl N x0 x1 (SV.v (.int .i64 0)) os
noncomputable def bk103_3 (K : Nat → List SV → List SO → Out) (N nl : Nat) (m3 : Nat) : Env → List SO → Out := fun env os => loopS nl (fi103.lp 3) (fun env os nx => exec (cx K) N nl fi103 (subC c103 [1, 1, 0, 1, 0, 0]) env os (kLoop nx (kBlock 0 (kSeq (exec (cx K) N nl fi103 (subC c103 [1, 1, 1])) (fi103.jn 8) (kEnd tab [] nl rs103))))) m3 (killS (fi103.lp 3).alive env) os
noncomputable def L103_3 (K : Nat → List SV → List SO → Out) (N nl : Nat) (m3 : Nat) (x3 x6 x7 x8 : SV) (os : List SO) : Out := loopS nl (fi103.lp 3) (fun env os nx => exec (cx K) N nl fi103 (subC c103 [1, 1, 0, 1, 0, 0]) env os (kLoop nx (kBlock 0 (kSeq (exec (cx K) N nl fi103 (subC c103 [1, 1, 1])) (fi103.jn 8) (kEnd tab [] nl rs103))))) m3 [(3, x3), (6, x6), (7, x7), (8, x8)] os
noncomputable def LB103_3 (K : Nat → List SV → List SO → Out) (N nl : Nat) (m3 : Nat) (x3 x6 x7 x8 : SV) (os : List SO) : Out :=
 bd (ret1 (binS tab .lss 3 x8 x7) os) fun v2 o2 =>
 condS v2 (bd (ret1 (indexAddrS tab o2 43 x6 x8) o2) fun v3 o3 =>
 bd (ret1 (loadS tab o3 3 v3) o3) fun v4 o4 =>
 bd (ret1 (binS tab .neq 3 v4 x3) o4) fun v5 o5 =>
 condS v5 (retV tab nl o5 (resC1 (some v4) (some [])))
 (bd (ret1 (binS tab .add 3 x8 (SV.v (.int .i64 1))) o5) fun v6 o6 =>
 L103_3 K N nl m3 x3 x6 x7 v6 o6))
 (retV tab nl o2 (resC1 (some x3) (some [])))
noncomputable def X103 (K : Nat → List SV → List SO → Out) (N nl : Nat) (x0 : SV) (os : List SO) : Out := exec (cx K) N nl fi103 c103 [(0, x0)] os (kEnd tab [] nl rs103)
noncomputable def B103 (K : Nat → List SV → List SO → Out) (N nl : Nat) (x0 : SV) (os : List SO) : Out :=
 bd (lenO tab 43 os x0) fun v1 o1 =>
 L103_3 K N nl N (SV.v (.int .i64 0)) x0 v1 (SV.v (.int .i64 0)) o1
noncomputable def X104 (K : Nat → List SV → List SO → Out) (N nl : Nat) (x0 x1 : SV) (os : List SO) : Out := exec (cx K) N nl fi104 c104 [(0, x0), (1, x1)] os (kEnd tab [] nl rs104)
noncomputable def B104 (K : Nat → List SV → List SO → Out) (N nl : Nat) (x0 x1 : SV) (os : List SO) : Out :=
 bd (callS ⟨tab, ownF, K⟩ os 119 [x0]) fun v1 o1 =>
 bd (callS ⟨tab, ownF, K⟩ o1 119 [x1]) fun v2 o2 =>
 condS v1 (condS v2 (retV tab nl o2 (resC1 (some (SV.v (.int .i64 0))) (some [])))
 (retV tab nl o2 (resC1 (some (SV.v (.int .i64 (-1)))) (some []))))
 (condS v2 (retV tab nl o2 (resC1 (some (SV.v (.int .i64 1))) (some [])))
 (bd (ret1 (binS tab .lss 3 x0 x1) o2) fun v3 o3 =>
 condS v3 (retV tab nl o3 (resC1 (some (SV.v (.int .i64 (-1)))) (some [])))
 (bd (ret1 (binS tab .gtr 3 x0 x1) o3) fun v4 o4 =>
 condS v4 (retV tab nl o4 (resC1 (some (SV.v (.int .i64 1))) (some [])))
 (retV tab nl o4 (resC1 (some (SV.v (.int .i64 0))) (some []))))))
noncomputable def bk105_11 (K : Nat → List SV → List SO → Out) (N nl : Nat) (m11 : Nat) : Env → List SO → Out := fun env os => loopS nl (fi105.lp 11) (fun env os nx => exec (cx K) N nl fi105 (subC c105 [1, 1, 1, 1, 1, 1, 1, 1, 0, 0, 0]) env os (kLoop nx (kBlock 0 (kSeq (exec (cx K) N nl fi105 (subC c105 [1, 1, 1, 1, 1, 1, 1, 1, 1])) (fi105.jn 17) (kEnd tab [] nl rs105))))) m11 (killS (fi105.lp 11).alive env) os
noncomputable def bk107_10 (K : Nat → List SV → List SO → Out) (N nl : Nat) (m10 : Nat) : Env → List SO → Out := fun env os => loopS nl (fi107.lp 10) (fun env os nx => exec (cx K) N nl fi107 (subC c107 [1, 1, 0, 1, 0, 1, 1, 1, 0, 1, 0, 0]) env os (kLoop nx (kBlock 0 (kSeq (exec (cx K) N nl fi107 (subC c107 [1, 1, 0, 1, 0, 1, 1, 1, 1])) (fi107.jn 17) (kSeq (exec (cx K) N nl fi107 (subC c107 [1, 1, 1])) (fi107.jn 20) (kEnd tab [] nl rs107)))))) m10 (killS (fi107.lp 10).alive env) os
noncomputable def bk111_2 (K : Nat → List SV → List SO → Out) (N nl : Nat) (m2 : Nat) : Env → List SO → Out := fun env os => loopS nl (fi111.lp 2) (fun env os nx => exec (cx K) N nl fi111 (subC c111 [1, 0, 1, 0, 0]) env os (kLoop nx (kBlock 0 (kSeq (exec (cx K) N nl fi111 (subC c111 [1, 1])) (fi111.jn 6) (kEnd tab [] nl rs111))))) m2 (killS (fi111.lp 2).alive env) os
noncomputable def L111_2 (K : Nat → List SV → List SO → Out) (N nl : Nat) (m2 : Nat) (x0 x3 : SV) (os : List SO) : Out := loopS nl (fi111.lp 2) (fun env os nx => exec (cx K) N nl fi111 (subC c111 [1, 0, 1, 0, 0]) env os (kLoop nx (kBlock 0 (kSeq (exec (cx K) N nl fi111 (subC c111 [1, 1])) (fi111.jn 6) (kEnd tab [] nl rs111))))) m2 [(0, x0), (3, x3)] os
noncomputable def LB111_2 (K : Nat → List SV → List SO → Out) (N nl : Nat) (m2 : Nat) (x0 x3 : SV) (os : List SO) : Out :=
 bd (lenO tab 43 os x0) fun v1 o1 =>
 bd (ret1 (binS tab .lss 3 x3 v1) o1) fun v2 o2 =>
 condS v2 (bd (ret1 (indexAddrS tab o2 43 x0 x3) o2) fun v3 o3 =>
 bd (ret1 (loadS tab o3 3 v3) o3) fun v4 o4 =>
 bd (callS ⟨tab, ownF, K⟩ o4 73 [v4, (SV.v (.int .i64 1)), (SV.v (.int .i64 6))]) fun v5 o5 =>
 bd (ret1 (unS .not v5) o5) fun v6 o6 =>
 bd (gd v6 false (some (x3, o6)) o6) fun v7 o7 =>
 bd (gd v6 false (ret1 (binS tab .gtr 3 v7 (SV.v (.int .i64 0))) o7) o7) fun v8 o8 =>
 bd (gd v6 false (some (v8, o8)) o8) fun v9 o9 =>
 bd (gd v9 true (some (x0, o9)) o9) fun v10 o10 =>
 bd (gd v9 true (some (x3, o10)) o10) fun v11 o11 =>
 bd (gd v9 true (ret1 (binS tab .sub 3 v11 (SV.v (.int .i64 1))) o11) o11) fun v12 o12 =>
 bd (gd v9 true (ret1 (indexAddrS tab o12 43 v10 v12) o12) o12) fun v13 o13 =>
 bd (gd v9 true (ret1 (loadS tab o13 3 v13) o13) o13) fun v14 o14 =>
 bd (gd v9 true (some (x0, o14)) o14) fun v15 o15 =>
 bd (gd v9 true (some (x3, o15)) o15) fun v16 o16 =>
 bd (gd v9 true (ret1 (indexAddrS tab o16 43 v15 v16) o16) o16) fun v17 o17 =>
 bd (gd v9 true (ret1 (loadS tab o17 3 v17) o17) o17) fun v18 o18 =>
 bd (gd v9 true (ret1 (binS tab .geq 3 v14 v18) o18) o18) fun v19 o19 =>
 bd (gd v6 false (ret1 (pickS v9 v19 (SV.v (.bool false))) o19) o19) fun v20 o20 =>
 bd (ret1 (pickS v6 (SV.v (.bool true)) v20) o20) fun v21 o21 =>
 condS v21 (retV tab nl o21 (resC1 (some (SV.v (.bool false))) (some [])))
 (bd (ret1 (binS tab .add 3 x3 (SV.v (.int .i64 1))) o21) fun v22 o22 =>
 L111_2 K N nl m2 x0 v22 o22))
 (retV tab nl o2 (resC1 (some (SV.v (.bool true))) (some [])))
noncomputable def X111 (K : Nat → List SV → List SO → Out) (N nl : Nat) (x0 : SV) (os : List SO) : Out := exec (cx K) N nl fi111 c111 [(0, x0)] os (kEnd tab [] nl rs111)
noncomputable def B111 (K : Nat → List SV → List SO → Out) (N nl : Nat) (x0 : SV) (os : List SO) : Out :=
 L111_2 K N nl N x0 (SV.v (.int .i64 0)) os
noncomputable def X112 (K : Nat → List SV → List SO → Out) (N nl : Nat) (x0 : SV) (os : List SO) : Out := exec (cx K) N nl fi112 c112 [(0, x0)] os (kEnd tab [] nl rs112)
noncomputable def B112 (K : Nat → List SV → List SO → Out) (N nl : Nat) (x0 : SV) (os : List SO) : Out :=
 bd (boxS tab os 153 (some x0)) fun v1 o1 =>
 bd (allocS tab o1 74) fun v2 o2 =>
 bd (allocS tab o2 74) fun v3 o3 =>
 bd (ret1 (fieldAddrS tab 153 v1 0) o3) fun v4 o4 =>
 bd (ret1 (loadS tab o4 3 v4) o4) fun v5 o5 =>
 bd (ret1 (fieldAddrS tab 74 v3 0) o5) fun v6 o6 =>
 bd (storeO tab o6 3 v6 (some v5)) fun v7 o7 =>
 bd (ret1 (fieldAddrS tab 153 v1 1) o7) fun v8 o8 =>
 bd (ret1 (loadS tab o8 3 v8) o8) fun v9 o9 =>
 bd (ret1 (fieldAddrS tab 74 v3 1) o9) fun v10 o10 =>
 bd (storeO tab o10 3 v10 (some v9)) fun v11 o11 =>
 bd (ret1 (fieldAddrS tab 153 v1 2) o11) fun v12 o12 =>
 bd (ret1 (loadS tab o12 3 v12) o12) fun v13 o13 =>
 bd (ret1 (fieldAddrS tab 74 v3 2) o13) fun v14 o14 =>
 bd (storeO tab o14 3 v14 (some v13)) fun v15 o15 =>
 bd (ret1 (loadS tab o15 74 v3) o15) fun v16 o16 =>
 bd (storeO tab o16 74 v2 (some v16)) fun v17 o17 =>
 retV tab nl o17 (resC1 (loadS tab o17 74 v2) (some []))
noncomputable def X113 (K : Nat → List SV → List SO → Out) (N nl : Nat) (x0 : SV) (os : List SO) : Out := exec (cx K) N nl fi113 c113 [(0, x0)] os (kEnd tab [] nl rs113)
noncomputable def B113 (K : Nat → List SV → List SO → Out) (N nl : Nat) (x0 : SV) (os : List SO) : Out :=
 bd (boxS tab os 155 (some x0)) fun v1 o1 =>
 bd (allocS tab o1 88) fun v2 o2 =>
 bd (allocS tab o2 88) fun v3 o3 =>
 bd (ret1 (fieldAddrS tab 155 v1 0) o3) fun v4 o4 =>
 bd (ret1 (loadS tab o4 3 v4) o4) fun v5 o5 =>
 bd (ret1 (fieldAddrS tab 88 v3 0) o5) fun v6 o6 =>
 bd (storeO tab o6 3 v6 (some v5)) fun v7 o7 =>
 bd (ret1 (fieldAddrS tab 155 v1 1) o7) fun v8 o8 =>
 bd (ret1 (loadS tab o8 3 v8) o8) fun v9 o9 =>
 bd (ret1 (fieldAddrS tab 88 v3 1) o9) fun v10 o10 =>
 bd (storeO tab o10 3 v10 (some v9)) fun v11 o11 =>
 bd (ret1 (loadS tab o11 88 v3) o11) fun v12 o12 =>
 bd (storeO tab o12 88 v2 (some v12)) fun v13 o13 =>
 retV tab nl o13 (resC1 (loadS tab o13 88 v2) (some []))
noncomputable def X114 (K : Nat → List SV → List SO → Out) (N nl : Nat) (x0 : SV) (os : List SO) : Out := exec (cx K) N nl fi114 c114 [(0, x0)] os (kEnd tab [] nl rs114)
noncomputable def B114 (K : Nat → List SV → List SO → Out) (N nl : Nat) (x0 : SV) (os : List SO) : Out :=
 bd (boxS tab os 157 (some x0)) fun v1 o1 =>
 bd (allocS tab o1 91) fun v2 o2 =>
 bd (allocS tab o2 91) fun v3 o3 =>
 bd (ret1 (fieldAddrS tab 157 v1 0) o3) fun v4 o4 =>
 bd (ret1 (loadS tab o4 3 v4) o4) fun v5 o5 =>
 bd (ret1 (fieldAddrS tab 91 v3 0) o5) fun v6 o6 =>
 bd (storeO tab o6 3 v6 (some v5)) fun v7 o7 =>
 bd (ret1 (fieldAddrS tab 157 v1 1) o7) fun v8 o8 =>
 bd (ret1 (loadS tab o8 3 v8) o8) fun v9 o9 =>
 bd (ret1 (fieldAddrS tab 91 v3 1) o9) fun v10 o10 =>
 bd (storeO tab o10 3 v10 (some v9)) fun v11 o11 =>
 bd (ret1 (loadS tab o11 91 v3) o11) fun v12 o12 =>
 bd (storeO tab o12 91 v2 (some v12)) fun v13 o13 =>
 retV tab nl o13 (resC1 (loadS tab o13 91 v2) (some []))
noncomputable def bk115_2 (K : Nat → List SV → List SO → Out) (N nl : Nat) (m2 : Nat) : Env → List SO → Out := fun env os => loopS nl (fi115.lp 2) (fun env os nx => exec (cx K) N nl fi115 (subC c115 [1, 0, 1, 0, 0]) env os (kLoop nx (kBlock 0 (kSeq (exec (cx K) N nl fi115 (subC c115 [1, 1])) (fi115.jn 7) (kEnd tab [] nl rs115))))) m2 (killS (fi115.lp 2).alive env) os
noncomputable def L115_2 (K : Nat → List SV → List SO → Out) (N nl : Nat) (m2 : Nat) (x0 x5 x6 x7 : SV) (os : List SO) : Out := loopS nl (fi115.lp 2) (fun env os nx => exec (cx K) N nl fi115 (subC c115 [1, 0, 1, 0, 0]) env os (kLoop nx (kBlock 0 (kSeq (exec (cx K) N nl fi115 (subC c115 [1, 1])) (fi115.jn 7) (kEnd tab [] nl rs115))))) m2 [(0, x0), (5, x5), (6, x6), (7, x7)] os
noncomputable def LB115_2 (K : Nat → List SV → List SO → Out) (N nl : Nat) (m2 : Nat) (x0 x5 x6 x7 : SV) (os : List SO) : Out :=
 bd (ret1 (binS tab .lss 3 x7 x6) os) fun v2 o2 =>
 condS v2 (bd (ret1 (indexAddrS tab o2 43 x5 x7) o2) fun v3 o3 =>
 bd (ret1 (loadS tab o3 3 v3) o3) fun v4 o4 =>
 bd (callS ⟨tab, ownF, K⟩ o4 46 [v4, (SV.v (.int .i64 1)), (SV.v (.int .i64 6))]) fun v5 o5 =>
 bd (ret1 (unS .not v5) o5) fun v6 o6 =>
 bd (gd v6 false (some (x7, o6)) o6) fun v7 o7 =>
 bd (gd v6 false (ret1 (binS tab .gtr 3 v7 (SV.v (.int .i64 0))) o7) o7) fun v8 o8 =>
 bd (gd v6 false (some (v8, o8)) o8) fun v9 o9 =>
 bd (gd v9 true (some (v4, o9)) o9) fun v10 o10 =>
 bd (gd v9 true (some (x0, o10)) o10) fun v11 o11 =>
 bd (gd v9 true (some (x7, o11)) o11) fun v12 o12 =>
 bd (gd v9 true (ret1 (binS tab .sub 3 v12 (SV.v (.int .i64 1))) o12) o12) fun v13 o13 =>
 bd (gd v9 true (ret1 (indexAddrS tab o13 43 v11 v13) o13) o13) fun v14 o14 =>
 bd (gd v9 true (ret1 (loadS tab o14 3 v14) o14) o14) fun v15 o15 =>
 bd (gd v9 true (ret1 (binS tab .leq 3 v10 v15) o15) o15) fun v16 o16 =>
 bd (gd v6 false (ret1 (pickS v9 v16 (SV.v (.bool false))) o16) o16) fun v17 o17 =>
 bd (ret1 (pickS v6 (SV.v (.bool true)) v17) o17) fun v18 o18 =>
 condS v18 (retV tab nl o18 (resC1 (some (SV.v (.bool false))) (some [])))
 (bd (ret1 (binS tab .add 3 x7 (SV.v (.int .i64 1))) o18) fun v19 o19 =>
 L115_2 K N nl m2 x0 x5 x6 v19 o19))
 (retV tab nl o2 (resC1 (some (SV.v (.bool true))) (some [])))
noncomputable def X115 (K : Nat → List SV → List SO → Out) (N nl : Nat) (x0 : SV) (os : List SO) : Out := exec (cx K) N nl fi115 c115 [(0, x0)] os (kEnd tab [] nl rs115)
noncomputable def B115 (K : Nat → List SV → List SO → Out) (N nl : Nat) (x0 : SV) (os : List SO) : Out :=
 bd (lenO tab 43 os x0) fun v1 o1 =>
 L115_2 K N nl N x0 x0 v1 (SV.v (.int .i64 0)) o1
noncomputable def bk116_4 (K : Nat → List SV → List SO → Out) (N nl : Nat) (m4 : Nat) : Env → List SO → Out := fun env os => loopS nl (fi116.lp 4) (fun env os nx => exec (cx K) N nl fi116 (subC c116 [1, 1, 0, 1, 0, 0]) env os (kLoop nx (kBlock 0 (kSeq (exec (cx K) N nl fi116 (subC c116 [1, 1, 1])) (fi116.jn 9) (kEnd tab [] nl rs116))))) m4 (killS (fi116.lp 4).alive env) os
noncomputable def L116_4 (K : Nat → List SV → List SO → Out) (N nl : Nat) (m4 : Nat) (x0 x1 x12 x13 : SV) (os : List SO) : Out := loopS nl (fi116.lp 4) (fun env os nx => exec (cx K) N nl fi116 (subC c116 [1, 1, 0, 1, 0, 0]) env os (kLoop nx (kBlock 0 (kSeq (exec (cx K) N nl fi116 (subC c116 [1, 1, 1])) (fi116.jn 9) (kEnd tab [] nl rs116))))) m4 [(0, x0), (1, x1), (12, x12), (13, x13)] os
noncomputable def LB116_4 (K : Nat → List SV → List SO → Out) (N nl : Nat) (m4 : Nat) (x0 x1 x12 x13 : SV) (os : List SO) : Out :=
 bd (ret1 (binS tab .lss 3 x13 x12) os) fun v5 o5 =>
 condS v5 (bd (ret1 (indexAddrS tab o5 26 x0 x13) o5) fun v6 o6 =>
 bd (ret1 (loadS tab o6 74 v6) o6) fun v7 o7 =>
 bd (ret1 (indexAddrS tab o7 26 x1 x13) o7) fun v8 o8 =>
 bd (ret1 (loadS tab o8 74 v8) o8) fun v9 o9 =>
 bd (ret1 (binS tab .neq 74 v7 v9) o9) fun v10 o10 =>
 condS v10 (retV tab nl o10 (resC1 (some (SV.v (.bool false))) (some [])))
 (bd (ret1 (binS tab .add 3 x13 (SV.v (.int .i64 1))) o10) fun v11 o11 =>
 L116_4 K N nl m4 x0 x1 x12 v11 o11))
 (retV tab nl o5 (resC1 (some (SV.v (.bool true))) (some [])))
noncomputable def X116 (K : Nat → List SV → List SO → Out) (N nl : Nat) (x0 x1 : SV) (os : List SO) : Out := exec (cx K) N nl fi116 c116 [(0, x0), (1, x1)] os (kEnd tab [] nl rs116)
noncomputable def B116 (K : Nat → List SV → List SO → Out) (N nl : Nat) (x0 x1 : SV) (os : List SO) : Out :=
 bd (lenO tab 26 os x0) fun v1 o1 =>
 bd (lenO tab 26 o1 x1) fun v2 o2 =>
 bd (ret1 (binS tab .neq 3 v1 v2) o2) fun v3 o3 =>
 condS v3 (retV tab nl o3 (resC1 (some (SV.v (.bool false))) (some [])))
 (bd (lenO tab 26 o3 x0) fun v4 o4 =>
 L116_4 K N nl N x0 x1 v4 (SV.v (.int .i64 0)) o4)
noncomputable def X117 (K : Nat → List SV → List SO → Out) (N nl : Nat) (x0 x1 : SV) (os : List SO) : Out := exec (cx K) N nl fi117 c117 [(0, x0), (1, x1)] os (kEnd tab [] nl rs117)
noncomputable def B117 (K : Nat → List SV → List SO → Out) (N nl : Nat) (x0 x1 : SV) (os : List SO) : Out :=
 bd (boxS tab os 88 (some x0)) fun v1 o1 =>
 bd (boxS tab o1 88 (some x1)) fun v2 o2 =>
 bd (ret1 (fieldAddrS tab 88 v1 0) o2) fun v3 o3 =>
 bd (ret1 (loadS tab o3 3 v3) o3) fun v4 o4 =>
 bd (ret1 (fieldAddrS tab 88 v2 0) o4) fun v5 o5 =>
 bd (ret1 (loadS tab o5 3 v5) o5) fun v6 o6 =>
 bd (ret1 (binS tab .neq 3 v4 v6) o6) fun v7 o7 =>
 condS v7 (retV tab nl o7 (resC1 (some (SV.v (.bool false))) (some [])))
 (bd (ret1 (fieldAddrS tab 88 v1 1) o7) fun v8 o8 =>
 bd (ret1 (loadS tab o8 3 v8) o8) fun v9 o9 =>
 bd (ret1 (fieldAddrS tab 88 v2 1) o9) fun v10 o10 =>
 bd (ret1 (loadS tab o10 3 v10) o10) fun v11 o11 =>
 bd (ret1 (binS tab .neq 3 v9 v11) o11) fun v12 o12 =>
 condS v12 (retV tab nl o12 (resC1 (some (SV.v (.bool false))) (some [])))
 (retV tab nl o12 (resC1 (some (SV.v (.bool true))) (some []))))
noncomputable def X118 (K : Nat → List SV → List SO → Out) (N nl : Nat) (x0 x1 : SV) (os : List SO) : Out := exec (cx K) N nl fi118 c118 [(0, x0), (1, x1)] os (kEnd tab [] nl rs118)
noncomputable def B118 (K : Nat → List SV → List SO → Out) (N nl : Nat) (x0 x1 : SV) (os : List SO) : Out :=
 bd (boxS tab os 91 (some x0)) fun v1 o1 =>
 bd (boxS tab o1 91 (some x1)) fun v2 o2 =>
 bd (ret1 (fieldAddrS tab 91 v1 0) o2) fun v3 o3 =>
 bd (ret1 (loadS tab o3 3 v3) o3) fun v4 o4 =>
 bd (ret1 (fieldAddrS tab 91 v2 0) o4) fun v5 o5 =>
 bd (ret1 (loadS tab o5 3 v5) o5) fun v6 o6 =>
 bd (ret1 (binS tab .neq 3 v4 v6) o6) fun v7 o7 =>
 condS v7 (retV tab nl o7 (resC1 (some (SV.v (.bool false))) (some [])))
 (bd (ret1 (fieldAddrS tab 91 v1 1) o7) fun v8 o8 =>
 bd (ret1 (loadS tab o8 3 v8) o8) fun v9 o9 =>
 bd (ret1 (fieldAddrS tab 91 v2 1) o9) fun v10 o10 =>
 bd (ret1 (loadS tab o10 3 v10) o10) fun v11 o11 =>
 bd (ret1 (binS tab .neq 3 v9 v11) o11) fun v12 o12 =>
 condS v12 (retV tab nl o12 (resC1 (some (SV.v (.bool false))) (some [])))
 (retV tab nl o12 (resC1 (some (SV.v (.bool true))) (some []))))
noncomputable def X119 (K : Nat → List SV → List SO → Out) (N nl : Nat) (x0 : SV) (os : List SO) : Out := exec (cx K) N nl fi119 c119 [(0, x0)] os (kEnd tab [] nl rs119)
noncomputable def B119 (K : Nat → List SV → List SO → Out) (N nl : Nat) (x0 : SV) (os : List SO) : Out :=
 bd (ret1 (binS tab .neq 3 x0 x0) os) fun v1 o1 =>
 retV tab nl o1 (resC1 (some v1) (some []))
noncomputable def bk120_6 (K : Nat → List SV → List SO → Out) (N nl : Nat) (m6 : Nat) : Env → List SO → Out := fun env os => loopS nl (fi120.lp 6) (fun env os nx => exec (cx K) N nl fi120 (subC c120 [1, 1, 1, 1, 0, 1, 0, 0]) env os (kLoop nx (kBlock 0 (kSeq (exec (cx K) N nl fi120 (subC c120 [1, 1, 1, 1, 1])) (fi120.jn 11) (kEnd tab [] nl rs120))))) m6 (killS (fi120.lp 6).alive env) os
noncomputable def bk121_6 (K : Nat → List SV → List SO → Out) (N nl : Nat) (m6 : Nat) : Env → List SO → Out := fun env os => loopS nl (fi121.lp 6) (fun env os nx => exec (cx K) N nl fi121 (subC c121 [1, 1, 1, 1, 0, 0]) env os (kLoop nx (kBlock 0 (kEnd tab [] nl rs121)))) m6 (killS (fi121.lp 6).alive env) os
noncomputable def bk123_15 (K : Nat → List SV → List SO → Out) (N nl : Nat) (m15 : Nat) : Env → List SO → Out := fun env os => loopS nl (fi123.lp 15) (fun env os nx => exec (cx K) N nl fi123 (subC c123 [1, 1, 1, 1, 1, 1, 1, 1, 0, 0, 0]) env os (kLoop nx (kBlock 1 (kSeq (exec (cx K) N nl fi123 (subC c123 [1, 1, 1, 1, 1, 1, 1, 1, 1])) (fi123.jn 35) (kEnd tab [] nl rs123))))) m15 (killS (fi123.lp 15).alive env) os
noncomputable def bk131_1 (K : Nat → List SV → List SO → Out) (N nl : Nat) (m1 : Nat) : Env → List SO → Out := fun env os => loopS nl (fi131.lp 1) (fun env os nx => exec (cx K) N nl fi131 (subC c131 [1, 0, 0, 0]) env os (kLoop nx (kBlock 0 (kSeq (exec (cx K) N nl fi131 (subC c131 [1, 1])) (fi131.jn 12) (kEnd tab [] nl rs131))))) m1 (killS (fi131.lp 1).alive env) os
noncomputable def bk132_11 (K : Nat → List SV → List SO → Out) (N nl : Nat) (m11 : Nat) : Env → List SO → Out := fun env os => loopS nl (fi132.lp 11) (fun env os nx => exec (cx K) N nl fi132 (subC c132 [1, 1, 1, 1, 1, 0, 1, 0, 1, 1, 1, 0, 0, 0]) env os (kLoop nx (kBlock 0 (kSeq (exec (cx K) N nl fi132 (subC c132 [1, 1, 1, 1, 1, 0, 1, 0, 1, 1, 1, 1])) (fi132.jn 15) (kSeq (exec (cx K) N nl fi132 (subC c132 [1, 1, 1, 1, 1, 1])) (fi132.jn 25) (kEnd tab [] nl rs132)))))) m11 (killS (fi132.lp 11).alive env) os
noncomputable def bk132_18 (K : Nat → List SV → List SO → Out) (N nl : Nat) (m18 : Nat) : Env → List SO → Out := fun env os => loopS nl (fi132.lp 18) (fun env os nx => exec (cx K) N nl fi132 (subC c132 [1, 1, 1, 1, 1, 0, 1, 1, 1, 0, 0, 0]) env os (kLoop nx (kBlock 2 (kSeq (exec (cx K) N nl fi132 (subC c132 [1, 1, 1, 1, 1, 0, 1, 1, 1, 1])) (fi132.jn 23) (kSeq (exec (cx K) N nl fi132 (subC c132 [1, 1, 1, 1, 1, 1])) (fi132.jn 25) (kEnd tab [] nl rs132)))))) m18 (killS (fi132.lp 18).alive env) os
noncomputable def bk133_2 (K : Nat → List SV → List SO → Out) (N nl : Nat) (m2 : Nat) : Env → List SO → Out := fun env os => loopS nl (fi133.lp 2) (fun env os nx => exec (cx K) N nl fi133 (subC c133 [1, 0, 1, 0, 0]) env os (kLoop nx (kBlock 0 (kSeq (exec (cx K) N nl fi133 (subC c133 [1, 1])) (fi133.jn 4) (kEnd tab [] nl rs133))))) m2 (killS (fi133.lp 2).alive env) os
noncomputable def bk139_5 (K : Nat → List SV → List SO → Out) (N nl : Nat) (m5 : Nat) : Env → List SO → Out := fun env os => loopS nl (fi139.lp 5) (fun env os nx => exec (cx K) N nl fi139 (subC c139 [1, 1, 1, 1, 0, 1, 0, 0]) env os (kLoop nx (kBlock 0 (kSeq (exec (cx K) N nl fi139 (subC c139 [1, 1, 1, 1, 1])) (fi139.jn 8) (kEnd tab [] nl rs139))))) m5 (killS (fi139.lp 5).alive env) os
noncomputable def bk139_11 (K : Nat → List SV → List SO → Out) (N nl : Nat) (m11 : Nat) : Env → List SO → Out := fun env os => loopS nl (fi139.lp 11) (fun env os nx => exec (cx K) N nl fi139 (subC c139 [1, 1, 1, 1, 1, 1, 0, 1, 0, 0]) env os (kLoop nx (kBlock 2 (kSeq (exec (cx K) N nl fi139 (subC c139 [1, 1, 1, 1, 1, 1, 1])) (fi139.jn 18) (kEnd tab [] nl rs139))))) m11 (killS (fi139.lp 11).alive env) os
noncomputable def bk140_36 (K : Nat → List SV → List SO → Out) (N nl : Nat) (m36 : Nat) : Env → List SO → Out := fun env os => loopS nl (fi140.lp 36) (fun env os nx => exec (cx K) N nl fi140 (subC c140 [1, 1, 1, 1, 1, 1, 1, 1, 1, 1, 1, 0, 1, 0, 0]) env os (kLoop nx (kBlock 3 (kSeq (exec (cx K) N nl fi140 (subC c140 [1, 1, 1, 1, 1, 1, 1, 1, 1, 1, 1, 1])) (fi140.jn 56) (kEnd tab [] nl rs140))))) m36 (killS (fi140.lp 36).alive env) os
noncomputable def bk150_3 (K : Nat → List SV → List SO → Out) (N nl : Nat) (m3 : Nat) : Env → List SO → Out := fun env os => loopS nl (fi150.lp 3) (fun env os nx => exec (cx K) N nl fi150 (subC c150 [1, 1, 0, 1, 0, 0]) env os (kLoop nx (kBlock 0 (kSeq (exec (cx K) N nl fi150 (subC c150 [1, 1, 1])) (fi150.jn 6) (kEnd tab [] nl rs150))))) m3 (killS (fi150.lp 3).alive env) os
noncomputable def bk150_8 (K : Nat → List SV → List SO → Out) (N nl : Nat) (m8 : Nat) : Env → List SO → Out := fun env os => loopS nl (fi150.lp 8) (fun env os nx => exec (cx K) N nl fi150 (subC c150 [1, 1, 1, 1, 0, 1, 0, 0]) env os (kLoop nx (kBlock 2 (kSeq (exec (cx K) N nl fi150 (subC c150 [1, 1, 1, 1, 1])) (fi150.jn 13) (kEnd tab [] nl rs150))))) m8 (killS (fi150.lp 8).alive env) os
noncomputable def bk152_10 (K : Nat → List SV → List SO → Out) (N nl : Nat) (m10 : Nat) : Env → List SO → Out := fun env os => loopS nl (fi152.lp 10) (fun env os nx => exec (cx K) N nl fi152 (subC c152 [1, 1, 1, 1, 1, 1, 0, 0, 0]) env os (kLoop nx (kBlock 0 (kSeq (exec (cx K) N nl fi152 (subC c152 [1, 1, 1, 1, 1, 1, 1])) (fi152.jn 21) (kEnd tab [] nl rs152))))) m10 (killS (fi152.lp 10).alive env) os
theorem X3_s (K : Nat → List SV → List SO → Out) (N nl : Nat) (x0 x1 : SV) (os : List SO) : X3 K N nl x0 x1 os = B3 K N nl x0 x1 os := by kernel_rfl
theorem E3 (n : Nat) (x0 x1 : SV) (os : List SO) : callF prg (n + 1) 3 [x0, x1] os = X3 (callF prg n) (n + 1) os.length x0 x1 os := by kernel_rfl
theorem U3 {Q : SV → List SO → Prop} {x0 x1 : SV} {os : List SO} {nl : Nat} (hnl : os.length = nl) (h : Ev (fun n => B3 (callF prg n) (n + 1) nl x0 x1 os) Q) : Ev (fun n => callF prg n 3 [x0, x1] os) Q := by subst hnl; exact ev_fun (fun n => (E3 n _ _ _).trans (X3_s _ _ _ _ _ _)) h
theorem X5_s (K : Nat → List SV → List SO → Out) (N nl : Nat) (x0 x1 : SV) (os : List SO) : X5 K N nl x0 x1 os = B5 K N nl x0 x1 os := by kernel_rfl
theorem L8_5_s (K : Nat → List SV → List SO → Out) (N nl : Nat) (m5 : Nat) (x6 x8 x18 x19 x20 : SV) (os : List SO) : L8_5 K N nl (m5 + 1) x6 x8 x18 x19 x20 os = gcB nl [x6, x8, x18, x19, x20] os fun xs os => G8_5 K N nl m5 xs os := by kernel_rfl
theorem G8_5_s (K : Nat → List SV → List SO → Out) (N nl : Nat) (m5 : Nat) (x6 x8 x18 x19 x20 : SV) (os : List SO) : G8_5 K N nl m5 [x6, x8, x18, x19, x20] os = GB8_5 K N nl m5 x6 x8 x18 x19 x20 os := by kernel_rfl
theorem X8_s (K : Nat → List SV → List SO → Out) (N nl : Nat) (x0 x1 x2 : SV) (os : List SO) : X8 K N nl x0 x1 x2 os = B8 K N nl x0 x1 x2 os := by kernel_rfl
theorem L13_2_s (K : Nat → List SV → List SO → Out) (N nl : Nat) (m2 : Nat) (x1 x6 x7 x8 : SV) (os : List SO) : L13_2 K N nl (m2 + 1) x1 x6 x7 x8 os = gcB nl [x1, x6, x7, x8] os fun xs os => G13_2 K N nl m2 xs os := by kernel_rfl
theorem UL13_2 {nl c : Nat} {Q : SV → List SO → Prop} {x1 x6 x7 x8 : SV} {os : List SO} (h : Ev (fun n => gcB nl [x1, x6, x7, x8] os fun xs os => G13_2 (callF prg n) (n + 1) nl (n + 1 - (c + 1)) xs os) Q) : Ev (fun n => L13_2 (callF prg n) (n + 1) nl (n + 1 - c) x1 x6 x7 x8 os) Q := ev_loop (L := fun n m => L13_2 (callF prg n) (n + 1) nl m x1 x6 x7 x8 os) (fun n m => L13_2_s _ _ _ _ _ _ _ _ _) h
theorem VL13_2 {nl : Nat} {Q : SV → List SO → Prop} {x1 x6 x7 x8 : SV} {os : List SO} (h : Ev (fun n => gcB nl [x1, x6, x7, x8] os fun xs os => G13_2 (callF prg n) (n + 1) nl (n + 1 - 1) xs os) Q) : Ev (fun n => L13_2 (callF prg n) (n + 1) nl (n + 1) x1 x6 x7 x8 os) Q := UL13_2 (c := 0) h
theorem G13_2_s (K : Nat → List SV → List SO → Out) (N nl : Nat) (m2 : Nat) (x1 x6 x7 x8 : SV) (os : List SO) : G13_2 K N nl m2 [x1, x6, x7, x8] os = GB13_2 K N nl m2 x1 x6 x7 x8 os := by kernel_rfl
theorem UG13_2 {nl : Nat} {Q : SV → List SO → Prop} (m2 : Nat → Nat) {x1 x6 x7 x8 : SV} {os : List SO} (h : Ev (fun n => GB13_2 (callF prg n) (n + 1) nl (m2 n) x1 x6 x7 x8 os) Q) : Ev (fun n => G13_2 (callF prg n) (n + 1) nl (m2 n) [x1, x6, x7, x8] os) Q := ev_eq (fun n => G13_2_s _ _ _ _ _ _ _ _ _) h
theorem X13_s (K : Nat → List SV → List SO → Out) (N nl : Nat) (x0 : SV) (os : List SO) : X13 K N nl x0 os = B13 K N nl x0 os := by kernel_rfl
theorem E13 (n : Nat) (x0 : SV) (os : List SO) : callF prg (n + 1) 13 [x0] os = X13 (callF prg n) (n + 1) os.length x0 os := by kernel_rfl
theorem U13 {Q : SV → List SO → Prop} {x0 : SV} {os : List SO} {nl : Nat} (hnl : os.length = nl) (h : Ev (fun n => B13 (callF prg n) (n + 1) nl x0 os) Q) : Ev (fun n => callF prg n 13 [x0] os) Q := by subst hnl; exact ev_fun (fun n => (E13 n _ _).trans (X13_s _ _ _ _ _)) h
theorem X14_s (K : Nat → List SV → List SO → Out) (N nl : Nat) (x0 x1 : SV) (os : List SO) : X14 K N nl x0 x1 os = B14 K N nl x0 x1 os := by kernel_rfl
theorem E14 (n : Nat) (x0 x1 : SV) (os : List SO) : callF prg (n + 1) 14 [x0, x1] os = X14 (callF prg n) (n + 1) os.length x0 x1 os := by kernel_rfl
theorem U14 {Q : SV → List SO → Prop} {x0 x1 : SV} {os : List SO} {nl : Nat} (hnl : os.length = nl) (h : Ev (fun n => B14 (callF prg n) (n + 1) nl x0 x1 os) Q) : Ev (fun n => callF prg n 14 [x0, x1] os) Q := by subst hnl; exact ev_fun (fun n => (E14 n _ _ _).trans (X14_s _ _ _ _ _ _)) h
theorem L15_5_s (K : Nat → List SV → List SO → Out) (N nl : Nat) (m5 : Nat) (x0 x1 x5 : SV) (os : List SO) : L15_5 K N nl (m5 + 1) x0 x1 x5 os = LB15_5 K N nl m5 x0 x1 x5 os := by kernel_rfl
theorem UL15_5 {nl c : Nat} {Q : SV → List SO → Prop} {x0 x1 x5 : SV} {os : List SO} (h : Ev (fun n => LB15_5 (callF prg n) (n + 1) nl (n + 1 - (c + 1)) x0 x1 x5 os) Q) : Ev (fun n => L15_5 (callF prg n) (n + 1) nl (n + 1 - c) x0 x1 x5 os) Q := ev_loop (L := fun n m => L15_5 (callF prg n) (n + 1) nl m x0 x1 x5 os) (fun n m => L15_5_s _ _ _ _ _ _ _ _) h
theorem X15_s (K : Nat → List SV → List SO → Out) (N nl : Nat) (x0 x1 : SV) (os : List SO) : X15 K N nl x0 x1 os = B15 K N nl x0 x1 os := by kernel_rfl
theorem E15 (n : Nat) (x0 x1 : SV) (os : List SO) : callF prg (n + 1) 15 [x0, x1] os = X15 (callF prg n) (n + 1) os.length x0 x1 os := by kernel_rfl
theorem U15 {Q : SV → List SO → Prop} {x0 x1 : SV} {os : List SO} {nl : Nat} (hnl : os.length = nl) (h : Ev (fun n => B15 (callF prg n) (n + 1) nl x0 x1 os) Q) : Ev (fun n => callF prg n 15 [x0, x1] os) Q := by subst hnl; exact ev_fun (fun n => (E15 n _ _ _).trans (X15_s _ _ _ _ _ _)) h
theorem L16_5_s (K : Nat → List SV → List SO → Out) (N nl : Nat) (m5 : Nat) (x1 x2 x5 x6 : SV) (os : List SO) : L16_5 K N nl (m5 + 1) x1 x2 x5 x6 os = gcB nl [x1, x2, x5, x6] os fun xs os => G16_5 K N nl m5 xs os := by kernel_rfl
theorem UL16_5 {nl c : Nat} {Q : SV → List SO → Prop} {x1 x2 x5 x6 : SV} {os : List SO} (h : Ev (fun n => gcB nl [x1, x2, x5, x6] os fun xs os => G16_5 (callF prg n) (n + 1) nl (n + 1 - (c + 1)) xs os) Q) : Ev (fun n => L16_5 (callF prg n) (n + 1) nl (n + 1 - c) x1 x2 x5 x6 os) Q := ev_loop (L := fun n m => L16_5 (callF prg n) (n + 1) nl m x1 x2 x5 x6 os) (fun n m => L16_5_s _ _ _ _ _ _ _ _ _) h
theorem VL16_5 {nl : Nat} {Q : SV → List SO → Prop} {x1 x2 x5 x6 : SV} {os : List SO} (h : Ev (fun n => gcB nl [x1, x2, x5, x6] os fun xs os => G16_5 (callF prg n) (n + 1) nl (n + 1 - 1) xs os) Q) : Ev (fun n => L16_5 (callF prg n) (n + 1) nl (n + 1) x1 x2 x5 x6 os) Q := UL16_5 (c := 0) h
theorem G16_5_s (K : Nat → List SV → List SO → Out) (N nl : Nat) (m5 : Nat) (x1 x2 x5 x6 : SV) (os : List SO) : G16_5 K N nl m5 [x1, x2, x5, x6] os = GB16_5 K N nl m5 x1 x2 x5 x6 os := by kernel_rfl
theorem UG16_5 {nl : Nat} {Q : SV → List SO → Prop} (m5 : Nat → Nat) {x1 x2 x5 x6 : SV} {os : List SO} (h : Ev (fun n => GB16_5 (callF prg n) (n + 1) nl (m5 n) x1 x2 x5 x6 os) Q) : Ev (fun n => G16_5 (callF prg n) (n + 1) nl (m5 n) [x1, x2, x5, x6] os) Q := ev_eq (fun n => G16_5_s _ _ _ _ _ _ _ _ _) h
theorem J16_6_s (K : Nat → List SV → List SO → Out) (N nl : Nat) (m5 : Nat) (x1 x2 x5 x6 : SV) (os : List SO) : J16_6 K N nl m5 x1 x2 x5 x6 os = JB16_6 K N nl m5 x1 x2 x5 x6 os := by kernel_rfl
theorem UJ16_6 {nl : Nat} {Q : SV → List SO → Prop} {m5 : Nat → Nat} {x1 x2 x5 x6 : SV} {os : List SO} (h : Ev (fun n => JB16_6 (callF prg n) (n + 1) nl (m5 n) x1 x2 x5 x6 os) Q) : Ev (fun n => J16_6 (callF prg n) (n + 1) nl (m5 n) x1 x2 x5 x6 os) Q := ev_eq (fun n => J16_6_s _ _ _ _ _ _ _ _ _) h
theorem X16_s (K : Nat → List SV → List SO → Out) (N nl : Nat) (x0 x1 : SV) (os : List SO) : X16 K N nl x0 x1 os = B16 K N nl x0 x1 os := by kernel_rfl
theorem E16 (n : Nat) (x0 x1 : SV) (os : List SO) : callF prg (n + 1) 16 [x0, x1] os = X16 (callF prg n) (n + 1) os.length x0 x1 os := by kernel_rfl
theorem U16 {Q : SV → List SO → Prop} {x0 x1 : SV} {os : List SO} {nl : Nat} (hnl : os.length = nl) (h : Ev (fun n => B16 (callF prg n) (n + 1) nl x0 x1 os) Q) : Ev (fun n => callF prg n 16 [x0, x1] os) Q := by subst hnl; exact ev_fun (fun n => (E16 n _ _ _).trans (X16_s _ _ _ _ _ _)) h
theorem X17_s (K : Nat → List SV → List SO → Out) (N nl : Nat) (x0 : SV) (os : List SO) : X17 K N nl x0 os = B17 K N nl x0 os := by kernel_rfl
theorem E17 (n : Nat) (x0 : SV) (os : List SO) : callF prg (n + 1) 17 [x0] os = X17 (callF prg n) (n + 1) os.length x0 os := by kernel_rfl
theorem U17 {Q : SV → List SO → Prop} {x0 : SV} {os : List SO} {nl : Nat} (hnl : os.length = nl) (h : Ev (fun n => B17 (callF prg n) (n + 1) nl x0 os) Q) : Ev (fun n => callF prg n 17 [x0] os) Q := by subst hnl; exact ev_fun (fun n => (E17 n _ _).trans (X17_s _ _ _ _ _)) h
theorem L18_3_s (K : Nat → List SV → List SO → Out) (N nl : Nat) (m3 : Nat) (x0 x3 x4 : SV) (os : List SO) : L18_3 K N nl (m3 + 1) x0 x3 x4 os = gcB nl [x0, x3, x4] os fun xs os => G18_3 K N nl m3 xs os := by kernel_rfl
theorem UL18_3 {nl c : Nat} {Q : SV → List SO → Prop} {x0 x3 x4 : SV} {os : List SO} (h : Ev (fun n => gcB nl [x0, x3, x4] os fun xs os => G18_3 (callF prg n) (n + 1) nl (n + 1 - (c + 1)) xs os) Q) : Ev (fun n => L18_3 (callF prg n) (n + 1) nl (n + 1 - c) x0 x3 x4 os) Q := ev_loop (L := fun n m => L18_3 (callF prg n) (n + 1) nl m x0 x3 x4 os) (fun n m => L18_3_s _ _ _ _ _ _ _ _) h
theorem VL18_3 {nl : Nat} {Q : SV → List SO → Prop} {x0 x3 x4 : SV} {os : List SO} (h : Ev (fun n => gcB nl [x0, x3, x4] os fun xs os => G18_3 (callF prg n) (n + 1) nl (n + 1 - 1) xs os) Q) : Ev (fun n => L18_3 (callF prg n) (n + 1) nl (n + 1) x0 x3 x4 os) Q := UL18_3 (c := 0) h
theorem G18_3_s (K : Nat → List SV → List SO → Out) (N nl : Nat) (m3 : Nat) (x0 x3 x4 : SV) (os : List SO) : G18_3 K N nl m3 [x0, x3, x4] os = GB18_3 K N nl m3 x0 x3 x4 os := by kernel_rfl
theorem UG18_3 {nl : Nat} {Q : SV → List SO → Prop} (m3 : Nat → Nat) {x0 x3 x4 : SV} {os : List SO} (h : Ev (fun n => GB18_3 (callF prg n) (n + 1) nl (m3 n) x0 x3 x4 os) Q) : Ev (fun n => G18_3 (callF prg n) (n + 1) nl (m3 n) [x0, x3, x4] os) Q := ev_eq (fun n => G18_3_s _ _ _ _ _ _ _ _) h
theorem X18_s (K : Nat → List SV → List SO → Out) (N nl : Nat) (x0 : SV) (os : List SO) : X18 K N nl x0 os = B18 K N nl x0 os := by kernel_rfl
theorem E18 (n : Nat) (x0 : SV) (os : List SO) : callF prg (n + 1) 18 [x0] os = X18 (callF prg n) (n + 1) os.length x0 os := by kernel_rfl
theorem U18 {Q : SV → List SO → Prop} {x0 : SV} {os : List SO} {nl : Nat} (hnl : os.length = nl) (h : Ev (fun n => B18 (callF prg n) (n + 1) nl x0 os) Q) : Ev (fun n => callF prg n 18 [x0] os) Q := by subst hnl; exact ev_fun (fun n => (E18 n _ _).trans (X18_s _ _ _ _ _)) h
theorem L19_5_s (K : Nat → List SV → List SO → Out) (N nl : Nat) (m5 : Nat) (x1 x5 x18 x19 x20 : SV) (os : List SO) : L19_5 K N nl (m5 + 1) x1 x5 x18 x19 x20 os = gcB nl [x1, x5, x18, x19, x20] os fun xs os => G19_5 K N nl m5 xs os := by kernel_rfl
theorem G19_5_s (K : Nat → List SV → List SO → Out) (N nl : Nat) (m5 : Nat) (x1 x5 x18 x19 x20 : SV) (os : List SO) : G19_5 K N nl m5 [x1, x5, x18, x19, x20] os = GB19_5 K N nl m5 x1 x5 x18 x19 x20 os := by kernel_rfl
theorem J19_9_s (K : Nat → List SV → List SO → Out) (N nl : Nat) (m5 : Nat) (x1 x5 x18 x19 x20 : SV) (os : List SO) : J19_9 K N nl m5 x1 x5 x18 x19 x20 os = JB19_9 K N nl m5 x1 x5 x18 x19 x20 os := by kernel_rfl
theorem X19_s (K : Nat → List SV → List SO → Out) (N nl : Nat) (x0 x1 : SV) (os : List SO) : X19 K N nl x0 x1 os = B19 K N nl x0 x1 os := by kernel_rfl
theorem L20_4_s (K : Nat → List SV → List SO → Out) (N nl : Nat) (m4 : Nat) (x0 x1 x5 : SV) (os : List SO) : L20_4 K N nl (m4 + 1) x0 x1 x5 os = LB20_4 K N nl m4 x0 x1 x5 os := by kernel_rfl
theorem UL20_4 {nl c : Nat} {Q : SV → List SO → Prop} {x0 x1 x5 : SV} {os : List SO} (h : Ev (fun n => LB20_4 (callF prg n) (n + 1) nl (n + 1 - (c + 1)) x0 x1 x5 os) Q) : Ev (fun n => L20_4 (callF prg n) (n + 1) nl (n + 1 - c) x0 x1 x5 os) Q := ev_loop (L := fun n m => L20_4 (callF prg n) (n + 1) nl m x0 x1 x5 os) (fun n m => L20_4_s _ _ _ _ _ _ _ _) h
theorem X20_s (K : Nat → List SV → List SO → Out) (N nl : Nat) (x0 x1 : SV) (os : List SO) : X20 K N nl x0 x1 os = B20 K N nl x0 x1 os := by kernel_rfl
theorem E20 (n : Nat) (x0 x1 : SV) (os : List SO) : callF prg (n + 1) 20 [x0, x1] os = X20 (callF prg n) (n + 1) os.length x0 x1 os := by kernel_rfl
theorem U20 {Q : SV → List SO → Prop} {x0 x1 : SV} {os : List SO} {nl : Nat} (hnl : os.length = nl) (h : Ev (fun n => B20 (callF prg n) (n + 1) nl x0 x1 os) Q) : Ev (fun n => callF prg n 20 [x0, x1] os) Q := by subst hnl; exact ev_fun (fun n => (E20 n _ _ _).trans (X20_s _ _ _ _ _ _)) h
theorem X21_s (K : Nat → List SV → List SO → Out) (N nl : Nat) (x0 x1 : SV) (os : List SO) : X21 K N nl x0 x1 os = B21 K N nl x0 x1 os := by kernel_rfl
theorem E21 (n : Nat) (x0 x1 : SV) (os : List SO) : callF prg (n + 1) 21 [x0, x1] os = X21 (callF prg n) (n + 1) os.length x0 x1 os := by kernel_rfl
theorem U21 {Q : SV → List SO → Prop} {x0 x1 : SV} {os : List SO} {nl : Nat} (hnl : os.length = nl) (h : Ev (fun n => B21 (callF prg n) (n + 1) nl x0 x1 os) Q) : Ev (fun n => callF prg n 21 [x0, x1] os) Q := by subst hnl; exact ev_fun (fun n => (E21 n _ _ _).trans (X21_s _ _ _ _ _ _)) h
theorem L22_4_s (K : Nat → List SV → List SO → Out) (N nl : Nat) (m4 : Nat) (x0 x1 x5 : SV) (os : List SO) : L22_4 K N nl (m4 + 1) x0 x1 x5 os = LB22_4 K N nl m4 x0 x1 x5 os := by kernel_rfl
theorem UL22_4 {nl c : Nat} {Q : SV → List SO → Prop} {x0 x1 x5 : SV} {os : List SO} (h : Ev (fun n => LB22_4 (callF prg n) (n + 1) nl (n + 1 - (c + 1)) x0 x1 x5 os) Q) : Ev (fun n => L22_4 (callF prg n) (n + 1) nl (n + 1 - c) x0 x1 x5 os) Q := ev_loop (L := fun n m => L22_4 (callF prg n) (n + 1) nl m x0 x1 x5 os) (fun n m => L22_4_s _ _ _ _ _ _ _ _) h
theorem X22_s (K : Nat → List SV → List SO → Out) (N nl : Nat) (x0 x1 : SV) (os : List SO) : X22 K N nl x0 x1 os = B22 K N nl x0 x1 os := by kernel_rfl
theorem E22 (n : Nat) (x0 x1 : SV) (os : List SO) : callF prg (n + 1) 22 [x0, x1] os = X22 (callF prg n) (n + 1) os.length x0 x1 os := by kernel_rfl
theorem U22 {Q : SV → List SO → Prop} {x0 x1 : SV} {os : List SO} {nl : Nat} (hnl : os.length = nl) (h : Ev (fun n => B22 (callF prg n) (n + 1) nl x0 x1 os) Q) : Ev (fun n => callF prg n 22 [x0, x1] os) Q := by subst hnl; exact ev_fun (fun n => (E22 n _ _ _).trans (X22_s _ _ _ _ _ _)) h
theorem X23_s (K : Nat → List SV → List SO → Out) (N nl : Nat) (x0 x1 : SV) (os : List SO) : X23 K N nl x0 x1 os = B23 K N nl x0 x1 os := by kernel_rfl
theorem E23 (n : Nat) (x0 x1 : SV) (os : List SO) : callF prg (n + 1) 23 [x0, x1] os = X23 (callF prg n) (n + 1) os.length x0 x1 os := by kernel_rfl
theorem U23 {Q : SV → List SO → Prop} {x0 x1 : SV} {os : List SO} {nl : Nat} (hnl : os.length = nl) (h : Ev (fun n => B23 (callF prg n) (n + 1) nl x0 x1 os) Q) : Ev (fun n => callF prg n 23 [x0, x1] os) Q := by subst hnl; exact ev_fun (fun n => (E23 n _ _ _).trans (X23_s _ _ _ _ _ _)) h
theorem L24_2_s (K : Nat → List SV → List SO → Out) (N nl : Nat) (m2 : Nat) (x0 x1 x5 : SV) (os : List SO) : L24_2 K N nl (m2 + 1) x0 x1 x5 os = LB24_2 K N nl m2 x0 x1 x5 os := by kernel_rfl
theorem UL24_2 {nl c : Nat} {Q : SV → List SO → Prop} {x0 x1 x5 : SV} {os : List SO} (h : Ev (fun n => LB24_2 (callF prg n) (n + 1) nl (n + 1 - (c + 1)) x0 x1 x5 os) Q) : Ev (fun n => L24_2 (callF prg n) (n + 1) nl (n + 1 - c) x0 x1 x5 os) Q := ev_loop (L := fun n m => L24_2 (callF prg n) (n + 1) nl m x0 x1 x5 os) (fun n m => L24_2_s _ _ _ _ _ _ _ _) h
theorem VL24_2 {nl : Nat} {Q : SV → List SO → Prop} {x0 x1 x5 : SV} {os : List SO} (h : Ev (fun n => LB24_2 (callF prg n) (n + 1) nl (n + 1 - 1) x0 x1 x5 os) Q) : Ev (fun n => L24_2 (callF prg n) (n + 1) nl (n + 1) x0 x1 x5 os) Q := UL24_2 (c := 0) h
theorem X24_s (K : Nat → List SV → List SO → Out) (N nl : Nat) (x0 x1 : SV) (os : List SO) : X24 K N nl x0 x1 os = B24 K N nl x0 x1 os := by kernel_rfl
theorem E24 (n : Nat) (x0 x1 : SV) (os : List SO) : callF prg (n + 1) 24 [x0, x1] os = X24 (callF prg n) (n + 1) os.length x0 x1 os := by kernel_rfl
theorem U24 {Q : SV → List SO → Prop} {x0 x1 : SV} {os : List SO} {nl : Nat} (hnl : os.length = nl) (h : Ev (fun n => B24 (callF prg n) (n + 1) nl x0 x1 os) Q) : Ev (fun n => callF prg n 24 [x0, x1] os) Q := by subst hnl; exact ev_fun (fun n => (E24 n _ _ _).trans (X24_s _ _ _ _ _ _)) h
theorem L25_2_s (K : Nat → List SV → List SO → Out) (N nl : Nat) (m2 : Nat) (x0 x1 x5 : SV) (os : List SO) : L25_2 K N nl (m2 + 1) x0 x1 x5 os = LB25_2 K N nl m2 x0 x1 x5 os := by kernel_rfl
theorem UL25_2 {nl c : Nat} {Q : SV → List SO → Prop} {x0 x1 x5 : SV} {os : List SO} (h : Ev (fun n => LB25_2 (callF prg n) (n + 1) nl (n + 1 - (c + 1)) x0 x1 x5 os) Q) : Ev (fun n => L25_2 (callF prg n) (n + 1) nl (n + 1 - c) x0 x1 x5 os) Q := ev_loop (L := fun n m => L25_2 (callF prg n) (n + 1) nl m x0 x1 x5 os) (fun n m => L25_2_s _ _ _ _ _ _ _ _) h
theorem X25_s (K : Nat → List SV → List SO → Out) (N nl : Nat) (x0 x1 : SV) (os : List SO) : X25 K N nl x0 x1 os = B25 K N nl x0 x1 os := by kernel_rfl
theorem E25 (n : Nat) (x0 x1 : SV) (os : List SO) : callF prg (n + 1) 25 [x0, x1] os = X25 (callF prg n) (n + 1) os.length x0 x1 os := by kernel_rfl
theorem U25 {Q : SV → List SO → Prop} {x0 x1 : SV} {os : List SO} {nl : Nat} (hnl : os.length = nl) (h : Ev (fun n => B25 (callF prg n) (n + 1) nl x0 x1 os) Q) : Ev (fun n => callF prg n 25 [x0, x1] os) Q := by subst hnl; exact ev_fun (fun n => (E25 n _ _ _).trans (X25_s _ _ _ _ _ _)) h
theorem L26_2_s (K : Nat → List SV → List SO → Out) (N nl : Nat) (m2 : Nat) (x0 x1 x5 : SV) (os : List SO) : L26_2 K N nl (m2 + 1) x0 x1 x5 os = LB26_2 K N nl m2 x0 x1 x5 os := by kernel_rfl
theorem UL26_2 {nl c : Nat} {Q : SV → List SO → Prop} {x0 x1 x5 : SV} {os : List SO} (h : Ev (fun n => LB26_2 (callF prg n) (n + 1) nl (n + 1 - (c + 1)) x0 x1 x5 os) Q) : Ev (fun n => L26_2 (callF prg n) (n + 1) nl (n + 1 - c) x0 x1 x5 os) Q := ev_loop (L := fun n m => L26_2 (callF prg n) (n + 1) nl m x0 x1 x5 os) (fun n m => L26_2_s _ _ _ _ _ _ _ _) h
theorem X26_s (K : Nat → List SV → List SO → Out) (N nl : Nat) (x0 x1 : SV) (os : List SO) : X26 K N nl x0 x1 os = B26 K N nl x0 x1 os := by kernel_rfl
theorem E26 (n : Nat) (x0 x1 : SV) (os : List SO) : callF prg (n + 1) 26 [x0, x1] os = X26 (callF prg n) (n + 1) os.length x0 x1 os := by kernel_rfl
theorem U26 {Q : SV → List SO → Prop} {x0 x1 : SV} {os : List SO} {nl : Nat} (hnl : os.length = nl) (h : Ev (fun n => B26 (callF prg n) (n + 1) nl x0 x1 os) Q) : Ev (fun n => callF prg n 26 [x0, x1] os) Q := by subst hnl; exact ev_fun (fun n => (E26 n _ _ _).trans (X26_s _ _ _ _ _ _)) h
theorem L30_2_s (K : Nat → List SV → List SO → Out) (N nl : Nat) (m2 : Nat) (x0 x3 : SV) (os : List SO) : L30_2 K N nl (m2 + 1) x0 x3 os = LB30_2 K N nl m2 x0 x3 os := by kernel_rfl
theorem UL30_2 {nl c : Nat} {Q : SV → List SO → Prop} {x0 x3 : SV} {os : List SO} (h : Ev (fun n => LB30_2 (callF prg n) (n + 1) nl (n + 1 - (c + 1)) x0 x3 os) Q) : Ev (fun n => L30_2 (callF prg n) (n + 1) nl (n + 1 - c) x0 x3 os) Q := ev_loop (L := fun n m => L30_2 (callF prg n) (n + 1) nl m x0 x3 os) (fun n m => L30_2_s _ _ _ _ _ _ _) h
theorem X30_s (K : Nat → List SV → List SO → Out) (N nl : Nat) (x0 : SV) (os : List SO) : X30 K N nl x0 os = B30 K N nl x0 os := by kernel_rfl
theorem E30 (n : Nat) (x0 : SV) (os : List SO) : callF prg (n + 1) 30 [x0] os = X30 (callF prg n) (n + 1) os.length x0 os := by kernel_rfl
theorem U30 {Q : SV → List SO → Prop} {x0 : SV} {os : List SO} {nl : Nat} (hnl : os.length = nl) (h : Ev (fun n => B30 (callF prg n) (n + 1) nl x0 os) Q) : Ev (fun n => callF prg n 30 [x0] os) Q := by subst hnl; exact ev_fun (fun n => (E30 n _ _).trans (X30_s _ _ _ _ _)) h
theorem L31_3_s (K : Nat → List SV → List SO → Out) (N nl : Nat) (m3 : Nat) (x0 x3 x4 : SV) (os : List SO) : L31_3 K N nl (m3 + 1) x0 x3 x4 os = LB31_3 K N nl m3 x0 x3 x4 os := by kernel_rfl
theorem UL31_3 {nl c : Nat} {Q : SV → List SO → Prop} {x0 x3 x4 : SV} {os : List SO} (h : Ev (fun n => LB31_3 (callF prg n) (n + 1) nl (n + 1 - (c + 1)) x0 x3 x4 os) Q) : Ev (fun n => L31_3 (callF prg n) (n + 1) nl (n + 1 - c) x0 x3 x4 os) Q := ev_loop (L := fun n m => L31_3 (callF prg n) (n + 1) nl m x0 x3 x4 os) (fun n m => L31_3_s _ _ _ _ _ _ _ _) h
theorem X31_s (K : Nat → List SV → List SO → Out) (N nl : Nat) (x0 : SV) (os : List SO) : X31 K N nl x0 os = B31 K N nl x0 os := by kernel_rfl
theorem E31 (n : Nat) (x0 : SV) (os : List SO) : callF prg (n + 1) 31 [x0] os = X31 (callF prg n) (n + 1) os.length x0 os := by kernel_rfl
theorem U31 {Q : SV → List SO → Prop} {x0 : SV} {os : List SO} {nl : Nat} (hnl : os.length = nl) (h : Ev (fun n => B31 (callF prg n) (n + 1) nl x0 os) Q) : Ev (fun n => callF prg n 31 [x0] os) Q := by subst hnl; exact ev_fun (fun n => (E31 n _ _).trans (X31_s _ _ _ _ _)) h
theorem L32_5_s (K : Nat → List SV → List SO → Out) (N nl : Nat) (m5 : Nat) (x1 x3 x4 : SV) (os : List SO) : L32_5 K N nl (m5 + 1) x1 x3 x4 os = LB32_5 K N nl m5 x1 x3 x4 os := by kernel_rfl
theorem UL32_5 {nl c : Nat} {Q : SV → List SO → Prop} {x1 x3 x4 : SV} {os : List SO} (h : Ev (fun n => LB32_5 (callF prg n) (n + 1) nl (n + 1 - (c + 1)) x1 x3 x4 os) Q) : Ev (fun n => L32_5 (callF prg n) (n + 1) nl (n + 1 - c) x1 x3 x4 os) Q := ev_loop (L := fun n m => L32_5 (callF prg n) (n + 1) nl m x1 x3 x4 os) (fun n m => L32_5_s _ _ _ _ _ _ _ _) h
theorem J32_6_s (K : Nat → List SV → List SO → Out) (N nl : Nat) (m5 : Nat) (x1 x3 x4 : SV) (os : List SO) : J32_6 K N nl m5 x1 x3 x4 os = JB32_6 K N nl m5 x1 x3 x4 os := by kernel_rfl
theorem UJ32_6 {nl : Nat} {Q : SV → List SO → Prop} {m5 : Nat → Nat} {x1 x3 x4 : SV} {os : List SO} (h : Ev (fun n => JB32_6 (callF prg n) (n + 1) nl (m5 n) x1 x3 x4 os) Q) : Ev (fun n => J32_6 (callF prg n) (n + 1) nl (m5 n) x1 x3 x4 os) Q := ev_eq (fun n => J32_6_s _ _ _ _ _ _ _ _) h
theorem L32_9_s (K : Nat → List SV → List SO → Out) (N nl : Nat) (m9 : Nat) (x1 x3 x5 : SV) (os : List SO) : L32_9 K N nl (m9 + 1) x1 x3 x5 os = LB32_9 K N nl m9 x1 x3 x5 os := by kernel_rfl
theorem UL32_9 {nl c : Nat} {Q : SV → List SO → Prop} {x1 x3 x5 : SV} {os : List SO} (h : Ev (fun n => LB32_9 (callF prg n) (n + 1) nl (n + 1 - (c + 1)) x1 x3 x5 os) Q) : Ev (fun n => L32_9 (callF prg n) (n + 1) nl (n + 1 - c) x1 x3 x5 os) Q := ev_loop (L := fun n m => L32_9 (callF prg n) (n + 1) nl m x1 x3 x5 os) (fun n m => L32_9_s _ _ _ _ _ _ _ _) h
theorem X32_s (K : Nat → List SV → List SO → Out) (N nl : Nat) (x0 : SV) (os : List SO) : X32 K N nl x0 os = B32 K N nl x0 os := by kernel_rfl
theorem E32 (n : Nat) (x0 : SV) (os : List SO) : callF prg (n + 1) 32 [x0] os = X32 (callF prg n) (n + 1) os.length x0 os := by kernel_rfl
theorem U32 {Q : SV → List SO → Prop} {x0 : SV} {os : List SO} {nl : Nat} (hnl : os.length = nl) (h : Ev (fun n => B32 (callF prg n) (n + 1) nl x0 os) Q) : Ev (fun n => callF prg n 32 [x0] os) Q := by subst hnl; exact ev_fun (fun n => (E32 n _ _).trans (X32_s _ _ _ _ _)) h
theorem L33_4_s (K : Nat → List SV → List SO → Out) (N nl : Nat) (m4 : Nat) (x1 x3 : SV) (os : List SO) : L33_4 K N nl (m4 + 1) x1 x3 os = gcB nl [x1, x3] os fun xs os => G33_4 K N nl m4 xs os := by kernel_rfl
theorem UL33_4 {nl c : Nat} {Q : SV → List SO → Prop} {x1 x3 : SV} {os : List SO} (h : Ev (fun n => gcB nl [x1, x3] os fun xs os => G33_4 (callF prg n) (n + 1) nl (n + 1 - (c + 1)) xs os) Q) : Ev (fun n => L33_4 (callF prg n) (n + 1) nl (n + 1 - c) x1 x3 os) Q := ev_loop (L := fun n m => L33_4 (callF prg n) (n + 1) nl m x1 x3 os) (fun n m => L33_4_s _ _ _ _ _ _ _) h
theorem VL33_4 {nl : Nat} {Q : SV → List SO → Prop} {x1 x3 : SV} {os : List SO} (h : Ev (fun n => gcB nl [x1, x3] os fun xs os => G33_4 (callF prg n) (n + 1) nl (n + 1 - 1) xs os) Q) : Ev (fun n => L33_4 (callF prg n) (n + 1) nl (n + 1) x1 x3 os) Q := UL33_4 (c := 0) h
theorem G33_4_s (K : Nat → List SV → List SO → Out) (N nl : Nat) (m4 : Nat) (x1 x3 : SV) (os : List SO) : G33_4 K N nl m4 [x1, x3] os = GB33_4 K N nl m4 x1 x3 os := by kernel_rfl
theorem UG33_4 {nl : Nat} {Q : SV → List SO → Prop} (m4 : Nat → Nat) {x1 x3 : SV} {os : List SO} (h : Ev (fun n => GB33_4 (callF prg n) (n + 1) nl (m4 n) x1 x3 os) Q) : Ev (fun n => G33_4 (callF prg n) (n + 1) nl (m4 n) [x1, x3] os) Q := ev_eq (fun n => G33_4_s _ _ _ _ _ _ _) h
theorem X33_s (K : Nat → List SV → List SO → Out) (N nl : Nat) (x0 : SV) (os : List SO) : X33 K N nl x0 os = B33 K N nl x0 os := by kernel_rfl
theorem E33 (n : Nat) (x0 : SV) (os : List SO) : callF prg (n + 1) 33 [x0] os = X33 (callF prg n) (n + 1) os.length x0 os := by kernel_rfl
theorem U33 {Q : SV → List SO → Prop} {x0 : SV} {os : List SO} {nl : Nat} (hnl : os.length = nl) (h : Ev (fun n => B33 (callF prg n) (n + 1) nl x0 os) Q) : Ev (fun n => callF prg n 33 [x0] os) Q := by subst hnl; exact ev_fun (fun n => (E33 n _ _).trans (X33_s _ _ _ _ _)) h
theorem L34_2_s (K : Nat → List SV → List SO → Out) (N nl : Nat) (m2 : Nat) (x0 x5 x6 x7 : SV) (os : List SO) : L34_2 K N nl (m2 + 1) x0 x5 x6 x7 os = gcB nl [x0, x5, x6, x7] os fun xs os => G34_2 K N nl m2 xs os := by kernel_rfl
theorem UL34_2 {nl c : Nat} {Q : SV → List SO → Prop} {x0 x5 x6 x7 : SV} {os : List SO} (h : Ev (fun n => gcB nl [x0, x5, x6, x7] os fun xs os => G34_2 (callF prg n) (n + 1) nl (n + 1 - (c + 1)) xs os) Q) : Ev (fun n => L34_2 (callF prg n) (n + 1) nl (n + 1 - c) x0 x5 x6 x7 os) Q := ev_loop (L := fun n m => L34_2 (callF prg n) (n + 1) nl m x0 x5 x6 x7 os) (fun n m => L34_2_s _ _ _ _ _ _ _ _ _) h
theorem VL34_2 {nl : Nat} {Q : SV → List SO → Prop} {x0 x5 x6 x7 : SV} {os : List SO} (h : Ev (fun n => gcB nl [x0, x5, x6, x7] os fun xs os => G34_2 (callF prg n) (n + 1) nl (n + 1 - 1) xs os) Q) : Ev (fun n => L34_2 (callF prg n) (n + 1) nl (n + 1) x0 x5 x6 x7 os) Q := UL34_2 (c := 0) h
theorem G34_2_s (K : Nat → List SV → List SO → Out) (N nl : Nat) (m2 : Nat) (x0 x5 x6 x7 : SV) (os : List SO) : G34_2 K N nl m2 [x0, x5, x6, x7] os = GB34_2 K N nl m2 x0 x5 x6 x7 os := by kernel_rfl
theorem UG34_2 {nl : Nat} {Q : SV → List SO → Prop} (m2 : Nat → Nat) {x0 x5 x6 x7 : SV} {os : List SO} (h : Ev (fun n => GB34_2 (callF prg n) (n + 1) nl (m2 n) x0 x5 x6 x7 os) Q) : Ev (fun n => G34_2 (callF prg n) (n + 1) nl (m2 n) [x0, x5, x6, x7] os) Q := ev_eq (fun n => G34_2_s _ _ _ _ _ _ _ _ _) h
theorem X34_s (K : Nat → List SV → List SO → Out) (N nl : Nat) (x0 : SV) (os : List SO) : X34 K N nl x0 os = B34 K N nl x0 os := by kernel_rfl
theorem E34 (n : Nat) (x0 : SV) (os : List SO) : callF prg (n + 1) 34 [x0] os = X34 (callF prg n) (n + 1) os.length x0 os := by kernel_rfl
theorem U34 {Q : SV → List SO → Prop} {x0 : SV} {os : List SO} {nl : Nat} (hnl : os.length = nl) (h : Ev (fun n => B34 (callF prg n) (n + 1) nl x0 os) Q) : Ev (fun n => callF prg n 34 [x0] os) Q := by subst hnl; exact ev_fun (fun n => (E34 n _ _).trans (X34_s _ _ _ _ _)) h
theorem X35_s (K : Nat → List SV → List SO → Out) (N nl : Nat) (x0 : SV) (os : List SO) : X35 K N nl x0 os = B35 K N nl x0 os := by kernel_rfl
theorem L39_4_s (K : Nat → List SV → List SO → Out) (N nl : Nat) (m4 : Nat) (x1 x30 x31 x32 : SV) (os : List SO) : L39_4 K N nl (m4 + 1) x1 x30 x31 x32 os = gcB nl [x1, x30, x31, x32] os fun xs os => G39_4 K N nl m4 xs os := by kernel_rfl
theorem UL39_4 {nl c : Nat} {Q : SV → List SO → Prop} {x1 x30 x31 x32 : SV} {os : List SO} (h : Ev (fun n => gcB nl [x1, x30, x31, x32] os fun xs os => G39_4 (callF prg n) (n + 1) nl (n + 1 - (c + 1)) xs os) Q) : Ev (fun n => L39_4 (callF prg n) (n + 1) nl (n + 1 - c) x1 x30 x31 x32 os) Q := ev_loop (L := fun n m => L39_4 (callF prg n) (n + 1) nl m x1 x30 x31 x32 os) (fun n m => L39_4_s _ _ _ _ _ _ _ _ _) h
theorem VL39_4 {nl : Nat} {Q : SV → List SO → Prop} {x1 x30 x31 x32 : SV} {os : List SO} (h : Ev (fun n => gcB nl [x1, x30, x31, x32] os fun xs os => G39_4 (callF prg n) (n + 1) nl (n + 1 - 1) xs os) Q) : Ev (fun n => L39_4 (callF prg n) (n + 1) nl (n + 1) x1 x30 x31 x32 os) Q := UL39_4 (c := 0) h
theorem G39_4_s (K : Nat → List SV → List SO → Out) (N nl : Nat) (m4 : Nat) (x1 x30 x31 x32 : SV) (os : List SO) : G39_4 K N nl m4 [x1, x30, x31, x32] os = GB39_4 K N nl m4 x1 x30 x31 x32 os := by kernel_rfl
theorem UG39_4 {nl : Nat} {Q : SV → List SO → Prop} (m4 : Nat → Nat) {x1 x30 x31 x32 : SV} {os : List SO} (h : Ev (fun n => GB39_4 (callF prg n) (n + 1) nl (m4 n) x1 x30 x31 x32 os) Q) : Ev (fun n => G39_4 (callF prg n) (n + 1) nl (m4 n) [x1, x30, x31, x32] os) Q := ev_eq (fun n => G39_4_s _ _ _ _ _ _ _ _ _) h
theorem L39_10_s (K : Nat → List SV → List SO → Out) (N nl : Nat) (m10 : Nat) (x1 x65 x66 x67 : SV) (os : List SO) : L39_10 K N nl (m10 + 1) x1 x65 x66 x67 os = gcB nl [x1, x65, x66, x67] os fun xs os => G39_10 K N nl m10 xs os := by kernel_rfl
theorem UL39_10 {nl c : Nat} {Q : SV → List SO → Prop} {x1 x65 x66 x67 : SV} {os : List SO} (h : Ev (fun n => gcB nl [x1, x65, x66, x67] os fun xs os => G39_10 (callF prg n) (n + 1) nl (n + 1 - (c + 1)) xs os) Q) : Ev (fun n => L39_10 (callF prg n) (n + 1) nl (n + 1 - c) x1 x65 x66 x67 os) Q := ev_loop (L := fun n m => L39_10 (callF prg n) (n + 1) nl m x1 x65 x66 x67 os) (fun n m => L39_10_s _ _ _ _ _ _ _ _ _) h
theorem VL39_10 {nl : Nat} {Q : SV → List SO → Prop} {x1 x65 x66 x67 : SV} {os : List SO} (h : Ev (fun n => gcB nl [x1, x65, x66, x67] os fun xs os => G39_10 (callF prg n) (n + 1) nl (n + 1 - 1) xs os) Q) : Ev (fun n => L39_10 (callF prg n) (n + 1) nl (n + 1) x1 x65 x66 x67 os) Q := UL39_10 (c := 0) h
theorem G39_10_s (K : Nat → List SV → List SO → Out) (N nl : Nat) (m10 : Nat) (x1 x65 x66 x67 : SV) (os : List SO) : G39_10 K N nl m10 [x1, x65, x66, x67] os = GB39_10 K N nl m10 x1 x65 x66 x67 os := by kernel_rfl
theorem UG39_10 {nl : Nat} {Q : SV → List SO → Prop} (m10 : Nat → Nat) {x1 x65 x66 x67 : SV} {os : List SO} (h : Ev (fun n => GB39_10 (callF prg n) (n + 1) nl (m10 n) x1 x65 x66 x67 os) Q) : Ev (fun n => G39_10 (callF prg n) (n + 1) nl (m10 n) [x1, x65, x66, x67] os) Q := ev_eq (fun n => G39_10_s _ _ _ _ _ _ _ _ _) h
theorem X39_s (K : Nat → List SV → List SO → Out) (N nl : Nat) (x0 : SV) (os : List SO) : X39 K N nl x0 os = B39 K N nl x0 os := by kernel_rfl
theorem E39 (n : Nat) (x0 : SV) (os : List SO) : callF prg (n + 1) 39 [x0] os = X39 (callF prg n) (n + 1) os.length x0 os := by kernel_rfl
theorem U39 {Q : SV → List SO → Prop} {x0 : SV} {os : List SO} {nl : Nat} (hnl : os.length = nl) (h : Ev (fun n => B39 (callF prg n) (n + 1) nl x0 os) Q) : Ev (fun n => callF prg n 39 [x0] os) Q := by subst hnl; exact ev_fun (fun n => (E39 n _ _).trans (X39_s _ _ _ _ _)) h
theorem X44_s (K : Nat → List SV → List SO → Out) (N nl : Nat) (x0 : SV) (os : List SO) : X44 K N nl x0 os = B44 K N nl x0 os := by kernel_rfl
theorem E44 (n : Nat) (x0 : SV) (os : List SO) : callF prg (n + 1) 44 [x0] os = X44 (callF prg n) (n + 1) os.length x0 os := by kernel_rfl
theorem U44 {Q : SV → List SO → Prop} {x0 : SV} {os : List SO} {nl : Nat} (hnl : os.length = nl) (h : Ev (fun n => B44 (callF prg n) (n + 1) nl x0 os) Q) : Ev (fun n => callF prg n 44 [x0] os) Q := by subst hnl; exact ev_fun (fun n => (E44 n _ _).trans (X44_s _ _ _ _ _)) h
theorem X45_s (K : Nat → List SV → List SO → Out) (N nl : Nat) (x0 : SV) (os : List SO) : X45 K N nl x0 os = B45 K N nl x0 os := by kernel_rfl
theorem E45 (n : Nat) (x0 : SV) (os : List SO) : callF prg (n + 1) 45 [x0] os = X45 (callF prg n) (n + 1) os.length x0 os := by kernel_rfl
theorem U45 {Q : SV → List SO → Prop} {x0 : SV} {os : List SO} {nl : Nat} (hnl : os.length = nl) (h : Ev (fun n => B45 (callF prg n) (n + 1) nl x0 os) Q) : Ev (fun n => callF prg n 45 [x0] os) Q := by subst hnl; exact ev_fun (fun n => (E45 n _ _).trans (X45_s _ _ _ _ _)) h
theorem X46_s (K : Nat → List SV → List SO → Out) (N nl : Nat) (x0 x1 x2 : SV) (os : List SO) : X46 K N nl x0 x1 x2 os = B46 K N nl x0 x1 x2 os := by kernel_rfl
theorem E46 (n : Nat) (x0 x1 x2 : SV) (os : List SO) : callF prg (n + 1) 46 [x0, x1, x2] os = X46 (callF prg n) (n + 1) os.length x0 x1 x2 os := by kernel_rfl
theorem U46 {Q : SV → List SO → Prop} {x0 x1 x2 : SV} {os : List SO} {nl : Nat} (hnl : os.length = nl) (h : Ev (fun n => B46 (callF prg n) (n + 1) nl x0 x1 x2 os) Q) : Ev (fun n => callF prg n 46 [x0, x1, x2] os) Q := by subst hnl; exact ev_fun (fun n => (E46 n _ _ _ _).trans (X46_s _ _ _ _ _ _ _)) h
theorem X47_s (K : Nat → List SV → List SO → Out) (N nl : Nat) (x0 x1 : SV) (os : List SO) : X47 K N nl x0 x1 os = B47 K N nl x0 x1 os := by kernel_rfl
theorem E47 (n : Nat) (x0 x1 : SV) (os : List SO) : callF prg (n + 1) 47 [x0, x1] os = X47 (callF prg n) (n + 1) os.length x0 x1 os := by kernel_rfl
theorem U47 {Q : SV → List SO → Prop} {x0 x1 : SV} {os : List SO} {nl : Nat} (hnl : os.length = nl) (h : Ev (fun n => B47 (callF prg n) (n + 1) nl x0 x1 os) Q) : Ev (fun n => callF prg n 47 [x0, x1] os) Q := by subst hnl; exact ev_fun (fun n => (E47 n _ _ _).trans (X47_s _ _ _ _ _ _)) h
theorem X48_s (K : Nat → List SV → List SO → Out) (N nl : Nat) (x0 x1 : SV) (os : List SO) : X48 K N nl x0 x1 os = B48 K N nl x0 x1 os := by kernel_rfl
theorem E48 (n : Nat) (x0 x1 : SV) (os : List SO) : callF prg (n + 1) 48 [x0, x1] os = X48 (callF prg n) (n + 1) os.length x0 x1 os := by kernel_rfl
theorem U48 {Q : SV → List SO → Prop} {x0 x1 : SV} {os : List SO} {nl : Nat} (hnl : os.length = nl) (h : Ev (fun n => B48 (callF prg n) (n + 1) nl x0 x1 os) Q) : Ev (fun n => callF prg n 48 [x0, x1] os) Q := by subst hnl; exact ev_fun (fun n => (E48 n _ _ _).trans (X48_s _ _ _ _ _ _)) h
theorem X49_s (K : Nat → List SV → List SO → Out) (N nl : Nat) (x0 x1 : SV) (os : List SO) : X49 K N nl x0 x1 os = B49 K N nl x0 x1 os := by kernel_rfl
theorem E49 (n : Nat) (x0 x1 : SV) (os : List SO) : callF prg (n + 1) 49 [x0, x1] os = X49 (callF prg n) (n + 1) os.length x0 x1 os := by kernel_rfl
theorem U49 {Q : SV → List SO → Prop} {x0 x1 : SV} {os : List SO} {nl : Nat} (hnl : os.length = nl) (h : Ev (fun n => B49 (callF prg n) (n + 1) nl x0 x1 os) Q) : Ev (fun n => callF prg n 49 [x0, x1] os) Q := by subst hnl; exact ev_fun (fun n => (E49 n _ _ _).trans (X49_s _ _ _ _ _ _)) h
theorem X50_s (K : Nat → List SV → List SO → Out) (N nl : Nat) (x0 : SV) (os : List SO) : X50 K N nl x0 os = B50 K N nl x0 os := by kernel_rfl
theorem E50 (n : Nat) (x0 : SV) (os : List SO) : callF prg (n + 1) 50 [x0] os = X50 (callF prg n) (n + 1) os.length x0 os := by kernel_rfl
theorem U50 {Q : SV → List SO → Prop} {x0 : SV} {os : List SO} {nl : Nat} (hnl : os.length = nl) (h : Ev (fun n => B50 (callF prg n) (n + 1) nl x0 os) Q) : Ev (fun n => callF prg n 50 [x0] os) Q := by subst hnl; exact ev_fun (fun n => (E50 n _ _).trans (X50_s _ _ _ _ _)) h
theorem X51_s (K : Nat → List SV → List SO → Out) (N nl : Nat) (x0 : SV) (os : List SO) : X51 K N nl x0 os = B51 K N nl x0 os := by kernel_rfl
theorem E51 (n : Nat) (x0 : SV) (os : List SO) : callF prg (n + 1) 51 [x0] os = X51 (callF prg n) (n + 1) os.length x0 os := by kernel_rfl
theorem U51 {Q : SV → List SO → Prop} {x0 : SV} {os : List SO} {nl : Nat} (hnl : os.length = nl) (h : Ev (fun n => B51 (callF prg n) (n + 1) nl x0 os) Q) : Ev (fun n => callF prg n 51 [x0] os) Q := by subst hnl; exact ev_fun (fun n => (E51 n _ _).trans (X51_s _ _ _ _ _)) h
theorem L52_2_s (K : Nat → List SV → List SO → Out) (N nl : Nat) (m2 : Nat) (x0 x1 x2 x7 : SV) (os : List SO) : L52_2 K N nl (m2 + 1) x0 x1 x2 x7 os = LB52_2 K N nl m2 x0 x1 x2 x7 os := by kernel_rfl
theorem UL52_2 {nl c : Nat} {Q : SV → List SO → Prop} {x0 x1 x2 x7 : SV} {os : List SO} (h : Ev (fun n => LB52_2 (callF prg n) (n + 1) nl (n + 1 - (c + 1)) x0 x1 x2 x7 os) Q) : Ev (fun n => L52_2 (callF prg n) (n + 1) nl (n + 1 - c) x0 x1 x2 x7 os) Q := ev_loop (L := fun n m => L52_2 (callF prg n) (n + 1) nl m x0 x1 x2 x7 os) (fun n m => L52_2_s _ _ _ _ _ _ _ _ _) h
theorem X52_s (K : Nat → List SV → List SO → Out) (N nl : Nat) (x0 x1 x2 : SV) (os : List SO) : X52 K N nl x0 x1 x2 os = B52 K N nl x0 x1 x2 os := by kernel_rfl
theorem E52 (n : Nat) (x0 x1 x2 : SV) (os : List SO) : callF prg (n + 1) 52 [x0, x1, x2] os = X52 (callF prg n) (n + 1) os.length x0 x1 x2 os := by kernel_rfl
theorem U52 {Q : SV → List SO → Prop} {x0 x1 x2 : SV} {os : List SO} {nl : Nat} (hnl : os.length = nl) (h : Ev (fun n => B52 (callF prg n) (n + 1) nl x0 x1 x2 os) Q) : Ev (fun n => callF prg n 52 [x0, x1, x2] os) Q := by subst hnl; exact ev_fun (fun n => (E52 n _ _ _ _).trans (X52_s _ _ _ _ _ _ _)) h
theorem X53_s (K : Nat → List SV → List SO → Out) (N nl : Nat) (x0 : SV) (os : List SO) : X53 K N nl x0 os = B53 K N nl x0 os := by kernel_rfl
theorem E53 (n : Nat) (x0 : SV) (os : List SO) : callF prg (n + 1) 53 [x0] os = X53 (callF prg n) (n + 1) os.length x0 os := by kernel_rfl
theorem U53 {Q : SV → List SO → Prop} {x0 : SV} {os : List SO} {nl : Nat} (hnl : os.length = nl) (h : Ev (fun n => B53 (callF prg n) (n + 1) nl x0 os) Q) : Ev (fun n => callF prg n 53 [x0] os) Q := by subst hnl; exact ev_fun (fun n => (E53 n _ _).trans (X53_s _ _ _ _ _)) h
theorem X54_s (K : Nat → List SV → List SO → Out) (N nl : Nat) (x0 : SV) (os : List SO) : X54 K N nl x0 os = B54 K N nl x0 os := by kernel_rfl
theorem E54 (n : Nat) (x0 : SV) (os : List SO) : callF prg (n + 1) 54 [x0] os = X54 (callF prg n) (n + 1) os.length x0 os := by kernel_rfl
theorem U54 {Q : SV → List SO → Prop} {x0 : SV} {os : List SO} {nl : Nat} (hnl : os.length = nl) (h : Ev (fun n => B54 (callF prg n) (n + 1) nl x0 os) Q) : Ev (fun n => callF prg n 54 [x0] os) Q := by subst hnl; exact ev_fun (fun n => (E54 n _ _).trans (X54_s _ _ _ _ _)) h
theorem X55_s (K : Nat → List SV → List SO → Out) (N nl : Nat) (x0 : SV) (os : List SO) : X55 K N nl x0 os = B55 K N nl x0 os := by kernel_rfl
theorem E55 (n : Nat) (x0 : SV) (os : List SO) : callF prg (n + 1) 55 [x0] os = X55 (callF prg n) (n + 1) os.length x0 os := by kernel_rfl
theorem U55 {Q : SV → List SO → Prop} {x0 : SV} {os : List SO} {nl : Nat} (hnl : os.length = nl) (h : Ev (fun n => B55 (callF prg n) (n + 1) nl x0 os) Q) : Ev (fun n => callF prg n 55 [x0] os) Q := by subst hnl; exact ev_fun (fun n => (E55 n _ _).trans (X55_s _ _ _ _ _)) h
theorem X56_s (K : Nat → List SV → List SO → Out) (N nl : Nat) (x0 : SV) (os : List SO) : X56 K N nl x0 os = B56 K N nl x0 os := by kernel_rfl
theorem E56 (n : Nat) (x0 : SV) (os : List SO) : callF prg (n + 1) 56 [x0] os = X56 (callF prg n) (n + 1) os.length x0 os := by kernel_rfl
theorem U56 {Q : SV → List SO → Prop} {x0 : SV} {os : List SO} {nl : Nat} (hnl : os.length = nl) (h : Ev (fun n => B56 (callF prg n) (n + 1) nl x0 os) Q) : Ev (fun n => callF prg n 56 [x0] os) Q := by subst hnl; exact ev_fun (fun n => (E56 n _ _).trans (X56_s _ _ _ _ _)) h
theorem X57_s (K : Nat → List SV → List SO → Out) (N nl : Nat) (x0 x1 : SV) (os : List SO) : X57 K N nl x0 x1 os = B57 K N nl x0 x1 os := by kernel_rfl
theorem X58_s (K : Nat → List SV → List SO → Out) (N nl : Nat) (x0 x1 : SV) (os : List SO) : X58 K N nl x0 x1 os = B58 K N nl x0 x1 os := by kernel_rfl
theorem X59_s (K : Nat → List SV → List SO → Out) (N nl : Nat) (x0 x1 : SV) (os : List SO) : X59 K N nl x0 x1 os = B59 K N nl x0 x1 os := by kernel_rfl
theorem E59 (n : Nat) (x0 x1 : SV) (os : List SO) : callF prg (n + 1) 59 [x0, x1] os = X59 (callF prg n) (n + 1) os.length x0 x1 os := by kernel_rfl
theorem U59 {Q : SV → List SO → Prop} {x0 x1 : SV} {os : List SO} {nl : Nat} (hnl : os.length = nl) (h : Ev (fun n => B59 (callF prg n) (n + 1) nl x0 x1 os) Q) : Ev (fun n => callF prg n 59 [x0, x1] os) Q := by subst hnl; exact ev_fun (fun n => (E59 n _ _ _).trans (X59_s _ _ _ _ _ _)) h
theorem X60_s (K : Nat → List SV → List SO → Out) (N nl : Nat) (x0 x1 : SV) (os : List SO) : X60 K N nl x0 x1 os = B60 K N nl x0 x1 os := by kernel_rfl
theorem E60 (n : Nat) (x0 x1 : SV) (os : List SO) : callF prg (n + 1) 60 [x0, x1] os = X60 (callF prg n) (n + 1) os.length x0 x1 os := by kernel_rfl
theorem U60 {Q : SV → List SO → Prop} {x0 x1 : SV} {os : List SO} {nl : Nat} (hnl : os.length = nl) (h : Ev (fun n => B60 (callF prg n) (n + 1) nl x0 x1 os) Q) : Ev (fun n => callF prg n 60 [x0, x1] os) Q := by subst hnl; exact ev_fun (fun n => (E60 n _ _ _).trans (X60_s _ _ _ _ _ _)) h
theorem X61_s (K : Nat → List SV → List SO → Out) (N nl : Nat) (x0 x1 : SV) (os : List SO) : X61 K N nl x0 x1 os = B61 K N nl x0 x1 os := by kernel_rfl
theorem E61 (n : Nat) (x0 x1 : SV) (os : List SO) : callF prg (n + 1) 61 [x0, x1] os = X61 (callF prg n) (n + 1) os.length x0 x1 os := by kernel_rfl
theorem U61 {Q : SV → List SO → Prop} {x0 x1 : SV} {os : List SO} {nl : Nat} (hnl : os.length = nl) (h : Ev (fun n => B61 (callF prg n) (n + 1) nl x0 x1 os) Q) : Ev (fun n => callF prg n 61 [x0, x1] os) Q := by subst hnl; exact ev_fun (fun n => (E61 n _ _ _).trans (X61_s _ _ _ _ _ _)) h
theorem X62_s (K : Nat → List SV → List SO → Out) (N nl : Nat) (x0 x1 : SV) (os : List SO) : X62 K N nl x0 x1 os = B62 K N nl x0 x1 os := by kernel_rfl
theorem E62 (n : Nat) (x0 x1 : SV) (os : List SO) : callF prg (n + 1) 62 [x0, x1] os = X62 (callF prg n) (n + 1) os.length x0 x1 os := by kernel_rfl
theorem U62 {Q : SV → List SO → Prop} {x0 x1 : SV} {os : List SO} {nl : Nat} (hnl : os.length = nl) (h : Ev (fun n => B62 (callF prg n) (n + 1) nl x0 x1 os) Q) : Ev (fun n => callF prg n 62 [x0, x1] os) Q := by subst hnl; exact ev_fun (fun n => (E62 n _ _ _).trans (X62_s _ _ _ _ _ _)) h
theorem X63_s (K : Nat → List SV → List SO → Out) (N nl : Nat) (x0 x1 : SV) (os : List SO) : X63 K N nl x0 x1 os = B63 K N nl x0 x1 os := by kernel_rfl
theorem E63 (n : Nat) (x0 x1 : SV) (os : List SO) : callF prg (n + 1) 63 [x0, x1] os = X63 (callF prg n) (n + 1) os.length x0 x1 os := by kernel_rfl
theorem U63 {Q : SV → List SO → Prop} {x0 x1 : SV} {os : List SO} {nl : Nat} (hnl : os.length = nl) (h : Ev (fun n => B63 (callF prg n) (n + 1) nl x0 x1 os) Q) : Ev (fun n => callF prg n 63 [x0, x1] os) Q := by subst hnl; exact ev_fun (fun n => (E63 n _ _ _).trans (X63_s _ _ _ _ _ _)) h
theorem X64_s (K : Nat → List SV → List SO → Out) (N nl : Nat) (x0 x1 : SV) (os : List SO) : X64 K N nl x0 x1 os = B64 K N nl x0 x1 os := by kernel_rfl
theorem E64 (n : Nat) (x0 x1 : SV) (os : List SO) : callF prg (n + 1) 64 [x0, x1] os = X64 (callF prg n) (n + 1) os.length x0 x1 os := by kernel_rfl
theorem U64 {Q : SV → List SO → Prop} {x0 x1 : SV} {os : List SO} {nl : Nat} (hnl : os.length = nl) (h : Ev (fun n => B64 (callF prg n) (n + 1) nl x0 x1 os) Q) : Ev (fun n => callF prg n 64 [x0, x1] os) Q := by subst hnl; exact ev_fun (fun n => (E64 n _ _ _).trans (X64_s _ _ _ _ _ _)) h
theorem L65_2_s (K : Nat → List SV → List SO → Out) (N nl : Nat) (m2 : Nat) (x0 x1 x5 : SV) (os : List SO) : L65_2 K N nl (m2 + 1) x0 x1 x5 os = LB65_2 K N nl m2 x0 x1 x5 os := by kernel_rfl
theorem UL65_2 {nl c : Nat} {Q : SV → List SO → Prop} {x0 x1 x5 : SV} {os : List SO} (h : Ev (fun n => LB65_2 (callF prg n) (n + 1) nl (n + 1 - (c + 1)) x0 x1 x5 os) Q) : Ev (fun n => L65_2 (callF prg n) (n + 1) nl (n + 1 - c) x0 x1 x5 os) Q := ev_loop (L := fun n m => L65_2 (callF prg n) (n + 1) nl m x0 x1 x5 os) (fun n m => L65_2_s _ _ _ _ _ _ _ _) h
theorem VL65_2 {nl : Nat} {Q : SV → List SO → Prop} {x0 x1 x5 : SV} {os : List SO} (h : Ev (fun n => LB65_2 (callF prg n) (n + 1) nl (n + 1 - 1) x0 x1 x5 os) Q) : Ev (fun n => L65_2 (callF prg n) (n + 1) nl (n + 1) x0 x1 x5 os) Q := UL65_2 (c := 0) h
theorem X65_s (K : Nat → List SV → List SO → Out) (N nl : Nat) (x0 x1 : SV) (os : List SO) : X65 K N nl x0 x1 os = B65 K N nl x0 x1 os := by kernel_rfl
theorem E65 (n : Nat) (x0 x1 : SV) (os : List SO) : callF prg (n + 1) 65 [x0, x1] os = X65 (callF prg n) (n + 1) os.length x0 x1 os := by kernel_rfl
theorem U65 {Q : SV → List SO → Prop} {x0 x1 : SV} {os : List SO} {nl : Nat} (hnl : os.length = nl) (h : Ev (fun n => B65 (callF prg n) (n + 1) nl x0 x1 os) Q) : Ev (fun n => callF prg n 65 [x0, x1] os) Q := by subst hnl; exact ev_fun (fun n => (E65 n _ _ _).trans (X65_s _ _ _ _ _ _)) h
theorem L66_2_s (K : Nat → List SV → List SO → Out) (N nl : Nat) (m2 : Nat) (x0 x1 x5 : SV) (os : List SO) : L66_2 K N nl (m2 + 1) x0 x1 x5 os = LB66_2 K N nl m2 x0 x1 x5 os := by kernel_rfl
theorem UL66_2 {nl c : Nat} {Q : SV → List SO → Prop} {x0 x1 x5 : SV} {os : List SO} (h : Ev (fun n => LB66_2 (callF prg n) (n + 1) nl (n + 1 - (c + 1)) x0 x1 x5 os) Q) : Ev (fun n => L66_2 (callF prg n) (n + 1) nl (n + 1 - c) x0 x1 x5 os) Q := ev_loop (L := fun n m => L66_2 (callF prg n) (n + 1) nl m x0 x1 x5 os) (fun n m => L66_2_s _ _ _ _ _ _ _ _) h
theorem VL66_2 {nl : Nat} {Q : SV → List SO → Prop} {x0 x1 x5 : SV} {os : List SO} (h : Ev (fun n => LB66_2 (callF prg n) (n + 1) nl (n + 1 - 1) x0 x1 x5 os) Q) : Ev (fun n => L66_2 (callF prg n) (n + 1) nl (n + 1) x0 x1 x5 os) Q := UL66_2 (c := 0) h
theorem X66_s (K : Nat → List SV → List SO → Out) (N nl : Nat) (x0 x1 : SV) (os : List SO) : X66 K N nl x0 x1 os = B66 K N nl x0 x1 os := by kernel_rfl
theorem E66 (n : Nat) (x0 x1 : SV) (os : List SO) : callF prg (n + 1) 66 [x0, x1] os = X66 (callF prg n) (n + 1) os.length x0 x1 os := by kernel_rfl
theorem U66 {Q : SV → List SO → Prop} {x0 x1 : SV} {os : List SO} {nl : Nat} (hnl : os.length = nl) (h : Ev (fun n => B66 (callF prg n) (n + 1) nl x0 x1 os) Q) : Ev (fun n => callF prg n 66 [x0, x1] os) Q := by subst hnl; exact ev_fun (fun n => (E66 n _ _ _).trans (X66_s _ _ _ _ _ _)) h
theorem X69_s (K : Nat → List SV → List SO → Out) (N nl : Nat) (x0 : SV) (os : List SO) : X69 K N nl x0 os = B69 K N nl x0 os := by kernel_rfl
theorem E69 (n : Nat) (x0 : SV) (os : List SO) : callF prg (n + 1) 69 [x0] os = X69 (callF prg n) (n + 1) os.length x0 os := by kernel_rfl
theorem U69 {Q : SV → List SO → Prop} {x0 : SV} {os : List SO} {nl : Nat} (hnl : os.length = nl) (h : Ev (fun n => B69 (callF prg n) (n + 1) nl x0 os) Q) : Ev (fun n => callF prg n 69 [x0] os) Q := by subst hnl; exact ev_fun (fun n => (E69 n _ _).trans (X69_s _ _ _ _ _)) h
theorem X70_s (K : Nat → List SV → List SO → Out) (N nl : Nat) (x0 x1 x2 x3 : SV) (os : List SO) : X70 K N nl x0 x1 x2 x3 os = B70 K N nl x0 x1 x2 x3 os := by kernel_rfl
theorem E70 (n : Nat) (x0 x1 x2 x3 : SV) (os : List SO) : callF prg (n + 1) 70 [x0, x1, x2, x3] os = X70 (callF prg n) (n + 1) os.length x0 x1 x2 x3 os := by kernel_rfl
theorem U70 {Q : SV → List SO → Prop} {x0 x1 x2 x3 : SV} {os : List SO} {nl : Nat} (hnl : os.length = nl) (h : Ev (fun n => B70 (callF prg n) (n + 1) nl x0 x1 x2 x3 os) Q) : Ev (fun n => callF prg n 70 [x0, x1, x2, x3] os) Q := by subst hnl; exact ev_fun (fun n => (E70 n _ _ _ _ _).trans (X70_s _ _ _ _ _ _ _ _)) h
theorem X71_s (K : Nat → List SV → List SO → Out) (N nl : Nat) (x0 x1 : SV) (os : List SO) : X71 K N nl x0 x1 os = B71 K N nl x0 x1 os := by kernel_rfl
theorem E71 (n : Nat) (x0 x1 : SV) (os : List SO) : callF prg (n + 1) 71 [x0, x1] os = X71 (callF prg n) (n + 1) os.length x0 x1 os := by kernel_rfl
theorem U71 {Q : SV → List SO → Prop} {x0 x1 : SV} {os : List SO} {nl : Nat} (hnl : os.length = nl) (h : Ev (fun n => B71 (callF prg n) (n + 1) nl x0 x1 os) Q) : Ev (fun n => callF prg n 71 [x0, x1] os) Q := by subst hnl; exact ev_fun (fun n => (E71 n _ _ _).trans (X71_s _ _ _ _ _ _)) h
theorem X72_s (K : Nat → List SV → List SO → Out) (N nl : Nat) (x0 : SV) (os : List SO) : X72 K N nl x0 os = B72 K N nl x0 os := by kernel_rfl
theorem E72 (n : Nat) (x0 : SV) (os : List SO) : callF prg (n + 1) 72 [x0] os = X72 (callF prg n) (n + 1) os.length x0 os := by kernel_rfl
theorem U72 {Q : SV → List SO → Prop} {x0 : SV} {os : List SO} {nl : Nat} (hnl : os.length = nl) (h : Ev (fun n => B72 (callF prg n) (n + 1) nl x0 os) Q) : Ev (fun n => callF prg n 72 [x0] os) Q := by subst hnl; exact ev_fun (fun n => (E72 n _ _).trans (X72_s _ _ _ _ _)) h
theorem X73_s (K : Nat → List SV → List SO → Out) (N nl : Nat) (x0 x1 x2 : SV) (os : List SO) : X73 K N nl x0 x1 x2 os = B73 K N nl x0 x1 x2 os := by kernel_rfl
theorem E73 (n : Nat) (x0 x1 x2 : SV) (os : List SO) : callF prg (n + 1) 73 [x0, x1, x2] os = X73 (callF prg n) (n + 1) os.length x0 x1 x2 os := by kernel_rfl
theorem U73 {Q : SV → List SO → Prop} {x0 x1 x2 : SV} {os : List SO} {nl : Nat} (hnl : os.length = nl) (h : Ev (fun n => B73 (callF prg n) (n + 1) nl x0 x1 x2 os) Q) : Ev (fun n => callF prg n 73 [x0, x1, x2] os) Q := by subst hnl; exact ev_fun (fun n => (E73 n _ _ _ _).trans (X73_s _ _ _ _ _ _ _)) h
theorem X74_s (K : Nat → List SV → List SO → Out) (N nl : Nat) (x0 x1 : SV) (os : List SO) : X74 K N nl x0 x1 os = B74 K N nl x0 x1 os := by kernel_rfl
theorem E74 (n : Nat) (x0 x1 : SV) (os : List SO) : callF prg (n + 1) 74 [x0, x1] os = X74 (callF prg n) (n + 1) os.length x0 x1 os := by kernel_rfl
theorem U74 {Q : SV → List SO → Prop} {x0 x1 : SV} {os : List SO} {nl : Nat} (hnl : os.length = nl) (h : Ev (fun n => B74 (callF prg n) (n + 1) nl x0 x1 os) Q) : Ev (fun n => callF prg n 74 [x0, x1] os) Q := by subst hnl; exact ev_fun (fun n => (E74 n _ _ _).trans (X74_s _ _ _ _ _ _)) h
theorem L75_3_s (K : Nat → List SV → List SO → Out) (N nl : Nat) (m3 : Nat) (x3 x7 x8 x9 : SV) (os : List SO) : L75_3 K N nl (m3 + 1) x3 x7 x8 x9 os = LB75_3 K N nl m3 x3 x7 x8 x9 os := by kernel_rfl
theorem UL75_3 {nl c : Nat} {Q : SV → List SO → Prop} {x3 x7 x8 x9 : SV} {os : List SO} (h : Ev (fun n => LB75_3 (callF prg n) (n + 1) nl (n + 1 - (c + 1)) x3 x7 x8 x9 os) Q) : Ev (fun n => L75_3 (callF prg n) (n + 1) nl (n + 1 - c) x3 x7 x8 x9 os) Q := ev_loop (L := fun n m => L75_3 (callF prg n) (n + 1) nl m x3 x7 x8 x9 os) (fun n m => L75_3_s _ _ _ _ _ _ _ _ _) h
theorem X75_s (K : Nat → List SV → List SO → Out) (N nl : Nat) (x0 : SV) (os : List SO) : X75 K N nl x0 os = B75 K N nl x0 os := by kernel_rfl
theorem E75 (n : Nat) (x0 : SV) (os : List SO) : callF prg (n + 1) 75 [x0] os = X75 (callF prg n) (n + 1) os.length x0 os := by kernel_rfl
theorem U75 {Q : SV → List SO → Prop} {x0 : SV} {os : List SO} {nl : Nat} (hnl : os.length = nl) (h : Ev (fun n => B75 (callF prg n) (n + 1) nl x0 os) Q) : Ev (fun n => callF prg n 75 [x0] os) Q := by subst hnl; exact ev_fun (fun n => (E75 n _ _).trans (X75_s _ _ _ _ _)) h
theorem X83_s (K : Nat → List SV → List SO → Out) (N nl : Nat) (x0 x1 : SV) (os : List SO) : X83 K N nl x0 x1 os = B83 K N nl x0 x1 os := by kernel_rfl
theorem E83 (n : Nat) (x0 x1 : SV) (os : List SO) : callF prg (n + 1) 83 [x0, x1] os = X83 (callF prg n) (n + 1) os.length x0 x1 os := by kernel_rfl
theorem U83 {Q : SV → List SO → Prop} {x0 x1 : SV} {os : List SO} {nl : Nat} (hnl : os.length = nl) (h : Ev (fun n => B83 (callF prg n) (n + 1) nl x0 x1 os) Q) : Ev (fun n => callF prg n 83 [x0, x1] os) Q := by subst hnl; exact ev_fun (fun n => (E83 n _ _ _).trans (X83_s _ _ _ _ _ _)) h
theorem X84_s (K : Nat → List SV → List SO → Out) (N nl : Nat) (x0 x1 : SV) (os : List SO) : X84 K N nl x0 x1 os = B84 K N nl x0 x1 os := by kernel_rfl
theorem E84 (n : Nat) (x0 x1 : SV) (os : List SO) : callF prg (n + 1) 84 [x0, x1] os = X84 (callF prg n) (n + 1) os.length x0 x1 os := by kernel_rfl
theorem U84 {Q : SV → List SO → Prop} {x0 x1 : SV} {os : List SO} {nl : Nat} (hnl : os.length = nl) (h : Ev (fun n => B84 (callF prg n) (n + 1) nl x0 x1 os) Q) : Ev (fun n => callF prg n 84 [x0, x1] os) Q := by subst hnl; exact ev_fun (fun n => (E84 n _ _ _).trans (X84_s _ _ _ _ _ _)) h
theorem X85_s (K : Nat → List SV → List SO → Out) (N nl : Nat) (x0 x1 : SV) (os : List SO) : X85 K N nl x0 x1 os = B85 K N nl x0 x1 os := by kernel_rfl
theorem E85 (n : Nat) (x0 x1 : SV) (os : List SO) : callF prg (n + 1) 85 [x0, x1] os = X85 (callF prg n) (n + 1) os.length x0 x1 os := by kernel_rfl
theorem U85 {Q : SV → List SO → Prop} {x0 x1 : SV} {os : List SO} {nl : Nat} (hnl : os.length = nl) (h : Ev (fun n => B85 (callF prg n) (n + 1) nl x0 x1 os) Q) : Ev (fun n => callF prg n 85 [x0, x1] os) Q := by subst hnl; exact ev_fun (fun n => (E85 n _ _ _).trans (X85_s _ _ _ _ _ _)) h
theorem X86_s (K : Nat → List SV → List SO → Out) (N nl : Nat) (x0 x1 : SV) (os : List SO) : X86 K N nl x0 x1 os = B86 K N nl x0 x1 os := by kernel_rfl
theorem E86 (n : Nat) (x0 x1 : SV) (os : List SO) : callF prg (n + 1) 86 [x0, x1] os = X86 (callF prg n) (n + 1) os.length x0 x1 os := by kernel_rfl
theorem U86 {Q : SV → List SO → Prop} {x0 x1 : SV} {os : List SO} {nl : Nat} (hnl : os.length = nl) (h : Ev (fun n => B86 (callF prg n) (n + 1) nl x0 x1 os) Q) : Ev (fun n => callF prg n 86 [x0, x1] os) Q := by subst hnl; exact ev_fun (fun n => (E86 n _ _ _).trans (X86_s _ _ _ _ _ _)) h
theorem X87_s (K : Nat → List SV → List SO → Out) (N nl : Nat) (x0 : SV) (os : List SO) : X87 K N nl x0 os = B87 K N nl x0 os := by kernel_rfl
theorem E87 (n : Nat) (x0 : SV) (os : List SO) : callF prg (n + 1) 87 [x0] os = X87 (callF prg n) (n + 1) os.length x0 os := by kernel_rfl
theorem U87 {Q : SV → List SO → Prop} {x0 : SV} {os : List SO} {nl : Nat} (hnl : os.length = nl) (h : Ev (fun n => B87 (callF prg n) (n + 1) nl x0 os) Q) : Ev (fun n => callF prg n 87 [x0] os) Q := by subst hnl; exact ev_fun (fun n => (E87 n _ _).trans (X87_s _ _ _ _ _)) h
theorem L88_3_s (K : Nat → List SV → List SO → Out) (N nl : Nat) (m3 : Nat) (x0 x3 x4 : SV) (os : List SO) : L88_3 K N nl (m3 + 1) x0 x3 x4 os = LB88_3 K N nl m3 x0 x3 x4 os := by kernel_rfl
theorem UL88_3 {nl c : Nat} {Q : SV → List SO → Prop} {x0 x3 x4 : SV} {os : List SO} (h : Ev (fun n => LB88_3 (callF prg n) (n + 1) nl (n + 1 - (c + 1)) x0 x3 x4 os) Q) : Ev (fun n => L88_3 (callF prg n) (n + 1) nl (n + 1 - c) x0 x3 x4 os) Q := ev_loop (L := fun n m => L88_3 (callF prg n) (n + 1) nl m x0 x3 x4 os) (fun n m => L88_3_s _ _ _ _ _ _ _ _) h
theorem X88_s (K : Nat → List SV → List SO → Out) (N nl : Nat) (x0 : SV) (os : List SO) : X88 K N nl x0 os = B88 K N nl x0 os := by kernel_rfl
theorem E88 (n : Nat) (x0 : SV) (os : List SO) : callF prg (n + 1) 88 [x0] os = X88 (callF prg n) (n + 1) os.length x0 os := by kernel_rfl
theorem U88 {Q : SV → List SO → Prop} {x0 : SV} {os : List SO} {nl : Nat} (hnl : os.length = nl) (h : Ev (fun n => B88 (callF prg n) (n + 1) nl x0 os) Q) : Ev (fun n => callF prg n 88 [x0] os) Q := by subst hnl; exact ev_fun (fun n => (E88 n _ _).trans (X88_s _ _ _ _ _)) h
theorem L89_3_s (K : Nat → List SV → List SO → Out) (N nl : Nat) (m3 : Nat) (x0 x3 x4 : SV) (os : List SO) : L89_3 K N nl (m3 + 1) x0 x3 x4 os = LB89_3 K N nl m3 x0 x3 x4 os := by kernel_rfl
theorem UL89_3 {nl c : Nat} {Q : SV → List SO → Prop} {x0 x3 x4 : SV} {os : List SO} (h : Ev (fun n => LB89_3 (callF prg n) (n + 1) nl (n + 1 - (c + 1)) x0 x3 x4 os) Q) : Ev (fun n => L89_3 (callF prg n) (n + 1) nl (n + 1 - c) x0 x3 x4 os) Q := ev_loop (L := fun n m => L89_3 (callF prg n) (n + 1) nl m x0 x3 x4 os) (fun n m => L89_3_s _ _ _ _ _ _ _ _) h
theorem X89_s (K : Nat → List SV → List SO → Out) (N nl : Nat) (x0 : SV) (os : List SO) : X89 K N nl x0 os = B89 K N nl x0 os := by kernel_rfl
theorem E89 (n : Nat) (x0 : SV) (os : List SO) : callF prg (n + 1) 89 [x0] os = X89 (callF prg n) (n + 1) os.length x0 os := by kernel_rfl
theorem U89 {Q : SV → List SO → Prop} {x0 : SV} {os : List SO} {nl : Nat} (hnl : os.length = nl) (h : Ev (fun n => B89 (callF prg n) (n + 1) nl x0 os) Q) : Ev (fun n => callF prg n 89 [x0] os) Q := by subst hnl; exact ev_fun (fun n => (E89 n _ _).trans (X89_s _ _ _ _ _)) h
theorem L90_3_s (K : Nat → List SV → List SO → Out) (N nl : Nat) (m3 : Nat) (x0 x3 x4 : SV) (os : List SO) : L90_3 K N nl (m3 + 1) x0 x3 x4 os = LB90_3 K N nl m3 x0 x3 x4 os := by kernel_rfl
theorem UL90_3 {nl c : Nat} {Q : SV → List SO → Prop} {x0 x3 x4 : SV} {os : List SO} (h : Ev (fun n => LB90_3 (callF prg n) (n + 1) nl (n + 1 - (c + 1)) x0 x3 x4 os) Q) : Ev (fun n => L90_3 (callF prg n) (n + 1) nl (n + 1 - c) x0 x3 x4 os) Q := ev_loop (L := fun n m => L90_3 (callF prg n) (n + 1) nl m x0 x3 x4 os) (fun n m => L90_3_s _ _ _ _ _ _ _ _) h
theorem X90_s (K : Nat → List SV → List SO → Out) (N nl : Nat) (x0 : SV) (os : List SO) : X90 K N nl x0 os = B90 K N nl x0 os := by kernel_rfl
theorem E90 (n : Nat) (x0 : SV) (os : List SO) : callF prg (n + 1) 90 [x0] os = X90 (callF prg n) (n + 1) os.length x0 os := by kernel_rfl
theorem U90 {Q : SV → List SO → Prop} {x0 : SV} {os : List SO} {nl : Nat} (hnl : os.length = nl) (h : Ev (fun n => B90 (callF prg n) (n + 1) nl x0 os) Q) : Ev (fun n => callF prg n 90 [x0] os) Q := by subst hnl; exact ev_fun (fun n => (E90 n _ _).trans (X90_s _ _ _ _ _)) h
theorem L91_3_s (K : Nat → List SV → List SO → Out) (N nl : Nat) (m3 : Nat) (x0 x3 x4 : SV) (os : List SO) : L91_3 K N nl (m3 + 1) x0 x3 x4 os = LB91_3 K N nl m3 x0 x3 x4 os := by kernel_rfl
theorem UL91_3 {nl c : Nat} {Q : SV → List SO → Prop} {x0 x3 x4 : SV} {os : List SO} (h : Ev (fun n => LB91_3 (callF prg n) (n + 1) nl (n + 1 - (c + 1)) x0 x3 x4 os) Q) : Ev (fun n => L91_3 (callF prg n) (n + 1) nl (n + 1 - c) x0 x3 x4 os) Q := ev_loop (L := fun n m => L91_3 (callF prg n) (n + 1) nl m x0 x3 x4 os) (fun n m => L91_3_s _ _ _ _ _ _ _ _) h
theorem X91_s (K : Nat → List SV → List SO → Out) (N nl : Nat) (x0 : SV) (os : List SO) : X91 K N nl x0 os = B91 K N nl x0 os := by kernel_rfl
theorem E91 (n : Nat) (x0 : SV) (os : List SO) : callF prg (n + 1) 91 [x0] os = X91 (callF prg n) (n + 1) os.length x0 os := by kernel_rfl
theorem U91 {Q : SV → List SO → Prop} {x0 : SV} {os : List SO} {nl : Nat} (hnl : os.length = nl) (h : Ev (fun n => B91 (callF prg n) (n + 1) nl x0 os) Q) : Ev (fun n => callF prg n 91 [x0] os) Q := by subst hnl; exact ev_fun (fun n => (E91 n _ _).trans (X91_s _ _ _ _ _)) h
theorem X92_s (K : Nat → List SV → List SO → Out) (N nl : Nat) (x0 : SV) (os : List SO) : X92 K N nl x0 os = B92 K N nl x0 os := by kernel_rfl
theorem E92 (n : Nat) (x0 : SV) (os : List SO) : callF prg (n + 1) 92 [x0] os = X92 (callF prg n) (n + 1) os.length x0 os := by kernel_rfl
theorem U92 {Q : SV → List SO → Prop} {x0 : SV} {os : List SO} {nl : Nat} (hnl : os.length = nl) (h : Ev (fun n => B92 (callF prg n) (n + 1) nl x0 os) Q) : Ev (fun n => callF prg n 92 [x0] os) Q := by subst hnl; exact ev_fun (fun n => (E92 n _ _).trans (X92_s _ _ _ _ _)) h
theorem X93_s (K : Nat → List SV → List SO → Out) (N nl : Nat) (x0 x1 : SV) (os : List SO) : X93 K N nl x0 x1 os = B93 K N nl x0 x1 os := by kernel_rfl
theorem E93 (n : Nat) (x0 x1 : SV) (os : List SO) : callF prg (n + 1) 93 [x0, x1] os = X93 (callF prg n) (n + 1) os.length x0 x1 os := by kernel_rfl
theorem U93 {Q : SV → List SO → Prop} {x0 x1 : SV} {os : List SO} {nl : Nat} (hnl : os.length = nl) (h : Ev (fun n => B93 (callF prg n) (n + 1) nl x0 x1 os) Q) : Ev (fun n => callF prg n 93 [x0, x1] os) Q := by subst hnl; exact ev_fun (fun n => (E93 n _ _ _).trans (X93_s _ _ _ _ _ _)) h
theorem L94_2_s (K : Nat → List SV → List SO → Out) (N nl : Nat) (m2 : Nat) (x0 x1 x7 x8 : SV) (os : List SO) : L94_2 K N nl (m2 + 1) x0 x1 x7 x8 os = LB94_2 K N nl m2 x0 x1 x7 x8 os := by kernel_rfl
theorem X94_s (K : Nat → List SV → List SO → Out) (N nl : Nat) (x0 x1 : SV) (os : List SO) : X94 K N nl x0 x1 os = B94 K N nl x0 x1 os := by kernel_rfl
theorem L95_4_s (K : Nat → List SV → List SO → Out) (N nl : Nat) (m4 : Nat) (x0 x1 x5 : SV) (os : List SO) : L95_4 K N nl (m4 + 1) x0 x1 x5 os = LB95_4 K N nl m4 x0 x1 x5 os := by kernel_rfl
theorem UL95_4 {nl c : Nat} {Q : SV → List SO → Prop} {x0 x1 x5 : SV} {os : List SO} (h : Ev (fun n => LB95_4 (callF prg n) (n + 1) nl (n + 1 - (c + 1)) x0 x1 x5 os) Q) : Ev (fun n => L95_4 (callF prg n) (n + 1) nl (n + 1 - c) x0 x1 x5 os) Q := ev_loop (L := fun n m => L95_4 (callF prg n) (n + 1) nl m x0 x1 x5 os) (fun n m => L95_4_s _ _ _ _ _ _ _ _) h
theorem X95_s (K : Nat → List SV → List SO → Out) (N nl : Nat) (x0 x1 : SV) (os : List SO) : X95 K N nl x0 x1 os = B95 K N nl x0 x1 os := by kernel_rfl
theorem E95 (n : Nat) (x0 x1 : SV) (os : List SO) : callF prg (n + 1) 95 [x0, x1] os = X95 (callF prg n) (n + 1) os.length x0 x1 os := by kernel_rfl
theorem U95 {Q : SV → List SO → Prop} {x0 x1 : SV} {os : List SO} {nl : Nat} (hnl : os.length = nl) (h : Ev (fun n => B95 (callF prg n) (n + 1) nl x0 x1 os) Q) : Ev (fun n => callF prg n 95 [x0, x1] os) Q := by subst hnl; exact ev_fun (fun n => (E95 n _ _ _).trans (X95_s _ _ _ _ _ _)) h
theorem L96_4_s (K : Nat → List SV → List SO → Out) (N nl : Nat) (m4 : Nat) (x0 x1 x5 : SV) (os : List SO) : L96_4 K N nl (m4 + 1) x0 x1 x5 os = LB96_4 K N nl m4 x0 x1 x5 os := by kernel_rfl
theorem UL96_4 {nl c : Nat} {Q : SV → List SO → Prop} {x0 x1 x5 : SV} {os : List SO} (h : Ev (fun n => LB96_4 (callF prg n) (n + 1) nl (n + 1 - (c + 1)) x0 x1 x5 os) Q) : Ev (fun n => L96_4 (callF prg n) (n + 1) nl (n + 1 - c) x0 x1 x5 os) Q := ev_loop (L := fun n m => L96_4 (callF prg n) (n + 1) nl m x0 x1 x5 os) (fun n m => L96_4_s _ _ _ _ _ _ _ _) h
theorem X96_s (K : Nat → List SV → List SO → Out) (N nl : Nat) (x0 x1 : SV) (os : List SO) : X96 K N nl x0 x1 os = B96 K N nl x0 x1 os := by kernel_rfl
theorem E96 (n : Nat) (x0 x1 : SV) (os : List SO) : callF prg (n + 1) 96 [x0, x1] os = X96 (callF prg n) (n + 1) os.length x0 x1 os := by kernel_rfl
theorem U96 {Q : SV → List SO → Prop} {x0 x1 : SV} {os : List SO} {nl : Nat} (hnl : os.length = nl) (h : Ev (fun n => B96 (callF prg n) (n + 1) nl x0 x1 os) Q) : Ev (fun n => callF prg n 96 [x0, x1] os) Q := by subst hnl; exact ev_fun (fun n => (E96 n _ _ _).trans (X96_s _ _ _ _ _ _)) h
theorem L97_4_s (K : Nat → List SV → List SO → Out) (N nl : Nat) (m4 : Nat) (x0 x1 x5 : SV) (os : List SO) : L97_4 K N nl (m4 + 1) x0 x1 x5 os = LB97_4 K N nl m4 x0 x1 x5 os := by kernel_rfl
theorem UL97_4 {nl c : Nat} {Q : SV → List SO → Prop} {x0 x1 x5 : SV} {os : List SO} (h : Ev (fun n => LB97_4 (callF prg n) (n + 1) nl (n + 1 - (c + 1)) x0 x1 x5 os) Q) : Ev (fun n => L97_4 (callF prg n) (n + 1) nl (n + 1 - c) x0 x1 x5 os) Q := ev_loop (L := fun n m => L97_4 (callF prg n) (n + 1) nl m x0 x1 x5 os) (fun n m => L97_4_s _ _ _ _ _ _ _ _) h
theorem X97_s (K : Nat → List SV → List SO → Out) (N nl : Nat) (x0 x1 : SV) (os : List SO) : X97 K N nl x0 x1 os = B97 K N nl x0 x1 os := by kernel_rfl
theorem E97 (n : Nat) (x0 x1 : SV) (os : List SO) : callF prg (n + 1) 97 [x0, x1] os = X97 (callF prg n) (n + 1) os.length x0 x1 os := by kernel_rfl
theorem U97 {Q : SV → List SO → Prop} {x0 x1 : SV} {os : List SO} {nl : Nat} (hnl : os.length = nl) (h : Ev (fun n => B97 (callF prg n) (n + 1) nl x0 x1 os) Q) : Ev (fun n => callF prg n 97 [x0, x1] os) Q := by subst hnl; exact ev_fun (fun n => (E97 n _ _ _).trans (X97_s _ _ _ _ _ _)) h
theorem L98_2_s (K : Nat → List SV → List SO → Out) (N nl : Nat) (m2 : Nat) (x0 x1 x5 : SV) (os : List SO) : L98_2 K N nl (m2 + 1) x0 x1 x5 os = LB98_2 K N nl m2 x0 x1 x5 os := by kernel_rfl
theorem UL98_2 {nl c : Nat} {Q : SV → List SO → Prop} {x0 x1 x5 : SV} {os : List SO} (h : Ev (fun n => LB98_2 (callF prg n) (n + 1) nl (n + 1 - (c + 1)) x0 x1 x5 os) Q) : Ev (fun n => L98_2 (callF prg n) (n + 1) nl (n + 1 - c) x0 x1 x5 os) Q := ev_loop (L := fun n m => L98_2 (callF prg n) (n + 1) nl m x0 x1 x5 os) (fun n m => L98_2_s _ _ _ _ _ _ _ _) h
theorem X98_s (K : Nat → List SV → List SO → Out) (N nl : Nat) (x0 x1 : SV) (os : List SO) : X98 K N nl x0 x1 os = B98 K N nl x0 x1 os := by kernel_rfl
theorem E98 (n : Nat) (x0 x1 : SV) (os : List SO) : callF prg (n + 1) 98 [x0, x1] os = X98 (callF prg n) (n + 1) os.length x0 x1 os := by kernel_rfl
theorem U98 {Q : SV → List SO → Prop} {x0 x1 : SV} {os : List SO} {nl : Nat} (hnl : os.length = nl) (h : Ev (fun n => B98 (callF prg n) (n + 1) nl x0 x1 os) Q) : Ev (fun n => callF prg n 98 [x0, x1] os) Q := by subst hnl; exact ev_fun (fun n => (E98 n _ _ _).trans (X98_s _ _ _ _ _ _)) h
end Go.Proofs.YtebaiioejagfoaaGreatDoor
