/- The evaluator S and what it says of functions: Sb. -/
import Derived.Test.YtfjbclgbpdlkgaaSb1
import Derived.Test.YtfjbclgbpdlkgaaProg
import Derived.KernelRfl
/- The evaluator S: the functions of this seat, read chunk by chunk (2). -/
namespace Go.Proofs.Ytfjbclgbpdlkgaa
open Go
set_option linter.unusedVariables false
set_option maxRecDepth 100000
noncomputable def B64 (K : zKT) (N nl : Nat) (x0 x1 : SV) (os : List SO) : Out :=
 bd (wt tab os 34 (some x1)) fun v1 o1=>
 bd (qc (qa tab 34 v1 0) o1) fun v2 o2=>
 bd (qc (qf tab o2 3 v2) o2) fun v3 o3=>
 bd (qc (qw tab .eql 3 v3 (.v (.int .i64 2))) o3) fun v4 o4=>
 qE v4 (bd (qc (ZP x0) o4) fun v5 o5 =>
 bd (qc (qa tab 26 v5 1) o5) fun v6 o6=>
 bd (qc (qf tab o6 24 v6) o6) fun v7 o7=>
 bd (qc (qa tab 34 v1 1) o7) fun v8 o8=>
 bd (qc (qf tab o8 3 v8) o8) fun v9 o9=>
 bd (qc (qj tab o9 24 v7 v9) o9) fun v10 o10=>
 bd (qp tab o10 3 v10 (some (.v (.int .i64 (-2))))) fun v11 o11=>
 kY tab [99999, 100000, 100003] nl o11 (some []))
 (bd (qc (qw tab .eql 3 v3 (.v (.int .i64 3))) o4) fun v12 o12 =>
 qE v12 (bd (qc (ZP x0) o12) fun v13 o13 =>
 bd (qc (qa tab 26 v13 0) o13) fun v14 o14=>
 bd (qp tab o14 23 v14 none) fun v15 o15=>
 kY tab [99999, 100000, 100003] nl o15 (some []))
 (kY tab [99999, 100000, 100003] nl o12 (some [])))
noncomputable def qdY (K : zKT) (N nl : Nat) (x2 x4 : SV) (os : List SO) : Out := qA (cx K) N nl fi65 (qM c65 [1, 1]) [(2, x2), (4, x4)] os (qV tab [0, 3] nl rs65)
noncomputable def qdZ (K : zKT) (N nl : Nat) (x2 x4 : SV) (os : List SO) : Out :=
 bd (qc (qf tab os 26 x2) os) fun v17 o17=>
 bd (qp tab o17 26 x4 (some v17)) fun v18 o18=>
 kY tab [0, 3] nl o18 (qx (qf tab o18 26 x4) (some []))
noncomputable def X65 (K : zKT) (N nl : Nat) (x0 x1 : SV) (os : List SO) : Out := qA (cx K) N nl fi65 c65 [(0, x0), (1, x1)] os (qV tab [0, 3] nl rs65)
noncomputable def B65 (K : zKT) (N nl : Nat) (x0 x1 : SV) (os : List SO) : Out :=
 bd (wt tab os 26 (some x0)) fun v1 o1=>
 bd (wt tab o1 34 (some x1)) fun v2 o2=>
 bd (qD tab o2 26) fun v3 o3=>
 bd (qc (qa tab 34 v2 0) o3) fun v4 o4=>
 bd (qc (qf tab o4 3 v4) o4) fun v5 o5=>
 bd (qc (qw tab .eql 3 v5 (.v (.int .i64 2))) o5) fun v6 o6=>
 qE v6 (bd (qc (qa tab 26 v1 1) o6) fun v7 o7 =>
 bd (qc (qf tab o7 24 v7) o7) fun v8 o8=>
 bd (qc (qa tab 34 v2 1) o8) fun v9 o9=>
 bd (qc (qf tab o9 3 v9) o9) fun v10 o10=>
 bd (qc (qj tab o10 24 v8 v10) o10) fun v11 o11=>
 bd (qp tab o11 3 v11 (some (.v (.int .i64 (-2))))) fun v12 o12=>
 qdY K N nl v1 v3 o12)
 (bd (qc (qw tab .eql 3 v5 (.v (.int .i64 3))) o6) fun v13 o13 =>
 qE v13 (bd (qv tab o13 23 0 []) fun v14 o14 =>
 bd (qc (qa tab 26 v1 0) o14) fun v15 o15=>
 bd (qp tab o15 23 v15 (some v14)) fun v16 o16=>
 qdY K N nl v1 v3 o16)
 (qdY K N nl v1 v3 o13))
noncomputable def X66 (K : zKT) (N nl : Nat) (x0 : SV) (os : List SO) : Out := qA (cx K) N nl fi66 c66 [(0, x0)] os (qV tab [] nl rs66)
noncomputable def B66 (K : zKT) (N nl : Nat) (x0 : SV) (os : List SO) : Out :=
 bd (evN tab 48 os none) fun v1 o1=>
 bd (ze tab 48 o1 x0) fun v2 o2=>
 bd (ze tab 48 o2 x0) fun v3 o3=>
 bd (qc (jQ tab 48 x0 v2 v3) o3) fun v4 o4=>
 zq tab nl o4 (qx (some v4) (some []))
noncomputable def qia (K : zKT) (N nl : Nat) (m3 : Nat) : Env → List SO → Out := fun env os => q8 nl (Yb.lp 3) (fun env os nx => qA (cx K) N nl Yb (qM c67 [1, 1, 0, 1, 0, 0]) env os (qP nx (qu 0 (zu (qA (cx K) N nl Yb (qM c67 [1, 1, 1])) (Yb.jn 8) (qV tab [0] nl rs67))))) m3 (zB (Yb.lp 3).alive env) os
noncomputable def qbe (K : zKT) (N nl : Nat) (m3 : Nat) (x1 x2 x5 x9 x10 x11 : SV) (os : List SO) : Out := q8 nl (Yb.lp 3) (fun env os nx => qA (cx K) N nl Yb (qM c67 [1, 1, 0, 1, 0, 0]) env os (qP nx (qu 0 (zu (qA (cx K) N nl Yb (qM c67 [1, 1, 1])) (Yb.jn 8) (qV tab [0] nl rs67))))) m3 [(1, x1), (2, x2), (5, x5), (9, x9), (10, x10), (11, x11)] os
noncomputable def qbf (K : zKT) (N nl : Nat) (m3 : Nat) (xs : List SV) (os : List SO) : Out := (fun env os nx => qA (cx K) N nl Yb (qM c67 [1, 1, 0, 1, 0, 0]) env os (qP nx (qu 0 (zu (qA (cx K) N nl Yb (qM c67 [1, 1, 1])) (Yb.jn 8) (qV tab [0] nl rs67))))) (jX [1, 2, 5, 9, 10, 11] xs) os (qia K N nl m3)
noncomputable def qgB (K : zKT) (N nl : Nat) (m3 : Nat) (x1 x2 x5 x9 x10 x11 : SV) (os : List SO) : Out := qA (cx K) N nl Yb (qM c67 [1, 1, 0, 1, 0, 0, 1, 1, 1]) [(1, x1), (2, x2), (5, x5), (9, x9), (10, x10), (11, x11)] os (qP (qia K N nl m3) (qu 0 (zu (qA (cx K) N nl Yb (qM c67 [1, 1, 1])) (Yb.jn 8) (qV tab [0] nl rs67))))
noncomputable def qd0 (K : zKT) (N nl : Nat) (m3 : Nat) (x1 x2 x5 x9 x10 x11 : SV) (os : List SO) : Out :=
 bd (qc (qw tab .lss 3 x11 x10) os) fun v6 o6=>
 qE v6 (bd (qc (qj tab o6 24 x9 x11) o6) fun v7 o7 =>
 bd (qc (qf tab o7 3 v7) o7) fun v8 o8=>
 bd (qc (qa tab 26 x2 1) o8) fun v9 o9=>
 bd (qc (qf tab o9 24 v9) o9) fun v10 o10=>
 bd (qc (qj tab o10 24 v10 x11) o10) fun v11 o11=>
 bd (qc (qf tab o11 3 v11) o11) fun v12 o12=>
 bd (qc (qw tab .neq 3 v12 v8) o12) fun v13 o13=>
 qE v13 (bd (zL tab o13 34 [(0, (some (.v (.int .i64 2)))), (1, (some x11)), (2, (some v8))]) fun v14 o14 =>
 bd (qv tab o14 48 1 [(0, v14)]) fun v15 o15=>
 bd (zx tab o15 48 48 x5 v15) fun v16 o16=>
 qgB K N nl m3 x1 x2 v16 x9 x10 x11 o16)
 (qgB K N nl m3 x1 x2 x5 x9 x10 x11 o13))
 (bd (qn ⟨tab, qm, K⟩ o6 73 [x1]) fun v17 o17 =>
 bd (zL tab o17 34 [(0, (some (.v (.int .i64 3)))), (3, (some v17))]) fun v18 o18=>
 bd (zL tab o18 34 [(0, (some (.v (.int .i64 4))))]) fun v19 o19=>
 bd (qv tab o19 48 2 [(0, v18), (1, v19)]) fun v20 o20=>
 bd (zx tab o20 48 48 x5 v20) fun v21 o21=>
 kY tab [0] nl o21 (qx (some v21) (some [])))
noncomputable def qd1 (K : zKT) (N nl : Nat) (m3 : Nat) (x1 x2 x5 x9 x10 x11 : SV) (os : List SO) : Out :=
 bd (qc (qw tab .add 3 x11 (.v (.int .i64 1))) os) fun v22 o22=>
 qbe K N nl m3 x1 x2 x5 x9 x10 v22 o22
noncomputable def X67 (K : zKT) (N nl : Nat) (x0 x1 : SV) (os : List SO) : Out := qA (cx K) N nl Yb c67 [(0, x0), (1, x1)] os (qV tab [0] nl rs67)
noncomputable def B67 (K : zKT) (N nl : Nat) (x0 x1 : SV) (os : List SO) : Out :=
 bd (wt tab os 26 (some x0)) fun v1 o1=>
 bd (evN tab 48 o1 none) fun v2 o2=>
 bd (evN tab 48 o2 none) fun v3 o3=>
 bd (qn ⟨tab, qm, K⟩ o3 21 [x1]) fun v4 o4=>
 bd (ze tab 24 o4 v4) fun v5 o5=>
 qbe K N nl N x1 v1 v3 v4 v5 (.v (.int .i64 0)) o5
noncomputable def qib (K : zKT) (N nl : Nat) (m4 : Nat) : Env → List SO → Out := fun env os => q8 nl (Yc.lp 4) (fun env os nx => qA (cx K) N nl Yc (qM c68 [1, 1, 1, 0, 1, 0, 0]) env os (qP nx (qu 0 (zu (qA (cx K) N nl Yc (qM c68 [1, 1, 1, 1])) (Yc.jn 8) (qV tab [] nl rs68))))) m4 (zB (Yc.lp 4).alive env) os
noncomputable def qbg (K : zKT) (N nl : Nat) (m4 : Nat) (x1 x2 x5 x6 x7 : SV) (os : List SO) : Out := q8 nl (Yc.lp 4) (fun env os nx => qA (cx K) N nl Yc (qM c68 [1, 1, 1, 0, 1, 0, 0]) env os (qP nx (qu 0 (zu (qA (cx K) N nl Yc (qM c68 [1, 1, 1, 1])) (Yc.jn 8) (qV tab [] nl rs68))))) m4 [(1, x1), (2, x2), (5, x5), (6, x6), (7, x7)] os
noncomputable def XC (K : zKT) (N nl : Nat) (m4 : Nat) (xs : List SV) (os : List SO) : Out := (fun env os nx => qA (cx K) N nl Yc (qM c68 [1, 1, 1, 0, 1, 0, 0]) env os (qP nx (qu 0 (zu (qA (cx K) N nl Yc (qM c68 [1, 1, 1, 1])) (Yc.jn 8) (qV tab [] nl rs68))))) (jX [1, 2, 5, 6, 7] xs) os (qib K N nl m4)
noncomputable def qgC (K : zKT) (N nl : Nat) (m4 : Nat) (x1 x2 x5 x6 x7 : SV) (os : List SO) : Out := qA (cx K) N nl Yc (qM c68 [1, 1, 1, 0, 1, 0, 0, 1, 1]) [(1, x1), (2, x2), (5, x5), (6, x6), (7, x7)] os (qP (qib K N nl m4) (qu 0 (zu (qA (cx K) N nl Yc (qM c68 [1, 1, 1, 1])) (Yc.jn 8) (qV tab [] nl rs68))))
noncomputable def J3 (K : zKT) (N nl : Nat) (m4 : Nat) (x1 x2 x5 x6 x7 : SV) (os : List SO) : Out :=
 bd (ze tab 24 os x6) fun v7 o7=>
 bd (qc (qw tab .lss 3 x7 v7) o7) fun v8 o8=>
 qE v8 (bd (qc (qj tab o8 24 x6 x7) o8) fun v9 o9 =>
 bd (qc (qf tab o9 3 v9) o9) fun v10 o10=>
 bd (qc (qa tab 26 x2 1) o10) fun v11 o11=>
 bd (qc (qf tab o11 24 v11) o11) fun v12 o12=>
 bd (qc (qj tab o12 24 v12 x7) o12) fun v13 o13=>
 bd (qc (qf tab o13 3 v13) o13) fun v14 o14=>
 bd (qc (qw tab .neq 3 v10 v14) o14) fun v15 o15=>
 qE v15 (bd (qc (qj tab o15 24 x6 x7) o15) fun v16 o16 =>
 bd (qc (qf tab o16 3 v16) o16) fun v17 o17=>
 bd (zL tab o17 34 [(0, (some (.v (.int .i64 2)))), (1, (some x7)), (2, (some v17))]) fun v18 o18=>
 bd (qv tab o18 48 1 [(0, v18)]) fun v19 o19=>
 bd (zx tab o19 48 48 x5 v19) fun v20 o20=>
 qgC K N nl m4 x1 x2 v20 x6 x7 o20)
 (qgC K N nl m4 x1 x2 x5 x6 x7 o15))
 (bd (qn ⟨tab, qm, K⟩ o8 82 [x1]) fun v21 o21 =>
 bd (zL tab o21 34 [(0, (some (.v (.int .i64 3)))), (3, (some v21))]) fun v22 o22=>
 bd (zL tab o22 34 [(0, (some (.v (.int .i64 4))))]) fun v23 o23=>
 bd (qv tab o23 48 2 [(0, v22), (1, v23)]) fun v24 o24=>
 bd (zx tab o24 48 48 x5 v24) fun v25 o25=>
 zq tab nl o25 (qx (some v25) (some [])))
noncomputable def J4 (K : zKT) (N nl : Nat) (m4 : Nat) (x1 x2 x5 x6 x7 : SV) (os : List SO) : Out :=
 bd (qc (qw tab .add 3 x7 (.v (.int .i64 1))) os) fun v26 o26=>
 qbg K N nl m4 x1 x2 x5 x6 v26 o26
noncomputable def X68 (K : zKT) (N nl : Nat) (x0 x1 : SV) (os : List SO) : Out := qA (cx K) N nl Yc c68 [(0, x0), (1, x1)] os (qV tab [] nl rs68)
noncomputable def B68 (K : zKT) (N nl : Nat) (x0 x1 : SV) (os : List SO) : Out :=
 bd (wt tab os 26 (some x0)) fun v1 o1=>
 bd (evN tab 48 o1 none) fun v2 o2=>
 bd (qn ⟨tab, qm, K⟩ o2 82 [x1]) fun v3 o3=>
 bd (zL tab o3 34 [(0, (some (.v (.int .i64 1)))), (3, (some v3))]) fun v4 o4=>
 bd (qv tab o4 48 1 [(0, v4)]) fun v5 o5=>
 bd (qn ⟨tab, qm, K⟩ o5 48 [x1]) fun v6 o6=>
 qbg K N nl N x1 v1 v5 v6 (.v (.int .i64 0)) o6
noncomputable def X69 (K : zKT) (N nl : Nat) (x0 x1 : SV) (os : List SO) : Out := qA (cx K) N nl fi69 c69 [(0, x0), (1, x1)] os (qV tab [] nl rs69)
noncomputable def B69 (K : zKT) (N nl : Nat) (x0 x1 : SV) (os : List SO) : Out :=
 bd (qn ⟨tab, qm, K⟩ os 88 [x0, x1]) fun v1 o1=>
 bd (qc (qw tab .geq 3 v1 (.v (.int .i64 0))) o1) fun v2 o2=>
 zq tab nl o2 (qx (some v2) (some []))
noncomputable def X70 (K : zKT) (N nl : Nat) (x0 : SV) (os : List SO) : Out := qA (cx K) N nl fi70 c70 [(0, x0)] os (qV tab [] nl rs70)
noncomputable def B70 (K : zKT) (N nl : Nat) (x0 : SV) (os : List SO) : Out :=
 bd (wt tab os 34 (some x0)) fun v1 o1=>
 bd (qc (qf tab o1 34 v1) o1) fun v2 o2=>
 bd (qn ⟨tab, qm, K⟩ o2 58 [v2]) fun v3 o3=>
 bd (qc (unS .not v3) o3) fun v4 o4=>
 zq tab nl o4 (qx (some v4) (some []))
noncomputable def qic (K : zKT) (N nl : Nat) (m3 : Nat) : Env → List SO → Out := fun env os => q8 nl (Yd.lp 3) (fun env os nx => qA (cx K) N nl Yd (qM c71 [1, 1, 0, 1, 0, 0]) env os (qP nx (qu 0 (zu (qA (cx K) N nl Yd (qM c71 [1, 1, 1])) (Yd.jn 8) (qV tab [0] nl rs71))))) m3 (zB (Yd.lp 3).alive env) os
noncomputable def qbh (K : zKT) (N nl : Nat) (m3 : Nat) (x0 x1 x5 x6 : SV) (os : List SO) : Out := q8 nl (Yd.lp 3) (fun env os nx => qA (cx K) N nl Yd (qM c71 [1, 1, 0, 1, 0, 0]) env os (qP nx (qu 0 (zu (qA (cx K) N nl Yd (qM c71 [1, 1, 1])) (Yd.jn 8) (qV tab [0] nl rs71))))) m3 [(0, x0), (1, x1), (5, x5), (6, x6)] os
noncomputable def qbi (K : zKT) (N nl : Nat) (m3 : Nat) (xs : List SV) (os : List SO) : Out := (fun env os nx => qA (cx K) N nl Yd (qM c71 [1, 1, 0, 1, 0, 0]) env os (qP nx (qu 0 (zu (qA (cx K) N nl Yd (qM c71 [1, 1, 1])) (Yd.jn 8) (qV tab [0] nl rs71))))) (jX [0, 1, 5, 6] xs) os (qic K N nl m3)
noncomputable def qgD (K : zKT) (N nl : Nat) (m3 : Nat) (x0 x1 x5 x6 : SV) (os : List SO) : Out := qA (cx K) N nl Yd (qM c71 [1, 1, 0, 1, 0, 0, 1, 1]) [(0, x0), (1, x1), (5, x5), (6, x6)] os (qP (qic K N nl m3) (qu 0 (zu (qA (cx K) N nl Yd (qM c71 [1, 1, 1])) (Yd.jn 8) (qV tab [0] nl rs71))))
noncomputable def qd2 (K : zKT) (N nl : Nat) (m3 : Nat) (x0 x1 x5 x6 : SV) (os : List SO) : Out :=
 bd (qc (qw tab .gtr 3 x6 (.v (.int .i64 0))) os) fun v4 o4=>
 qE v4 (bd (qn ⟨tab, qm, K⟩ o4 43 [x0, (.v (.int .i64 4))]) fun v5 o5 =>
 bd (qc (qw tab .add 3 (.v (.int .i64 1)) v5) o5) fun v6 o6=>
 bd (qn ⟨tab, qm, K⟩ o6 89 [x1, x5, v6]) fun v7 o7=>
 bd (qc (ql v7 0) o7) fun v8 o8=>
 bd (qc (ql v7 1) o8) fun v9 o9=>
 qE v9 (qgD K N nl m3 x0 x1 v8 x6 o9)
 (qgD K N nl m3 x0 x1 x5 x6 o9))
 (kY tab [0] nl o4 (qx (some x5) (some [])))
noncomputable def qd3 (K : zKT) (N nl : Nat) (m3 : Nat) (x0 x1 x5 x6 : SV) (os : List SO) : Out :=
 bd (qc (qw tab .sub 3 x6 (.v (.int .i64 1))) os) fun v10 o10=>
 qbh K N nl m3 x0 x1 x5 v10 o10
noncomputable def X71 (K : zKT) (N nl : Nat) (x0 x1 : SV) (os : List SO) : Out := qA (cx K) N nl Yd c71 [(0, x0), (1, x1)] os (qV tab [0] nl rs71)
noncomputable def B71 (K : zKT) (N nl : Nat) (x0 x1 : SV) (os : List SO) : Out :=
 bd (evN tab 23 os none) fun v1 o1=>
 bd (qv tab o1 23 0 []) fun v2 o2=>
 bd (qn ⟨tab, qm, K⟩ o2 43 [x0, (.v (.int .i64 3))]) fun v3 o3=>
 qbh K N nl N x0 x1 v2 v3 o3
noncomputable def qid (K : zKT) (N nl : Nat) (m3 : Nat) : Env → List SO → Out := fun env os => q8 nl (Ye.lp 3) (fun env os nx => qA (cx K) N nl Ye (qM c72 [1, 1, 0, 1, 0, 0]) env os (qP nx (qu 0 (zu (qA (cx K) N nl Ye (qM c72 [1, 1, 1])) (Ye.jn 8) (qV tab [] nl rs72))))) m3 (zB (Ye.lp 3).alive env) os
noncomputable def qbj (K : zKT) (N nl : Nat) (m3 : Nat) (x0 x3 x4 : SV) (os : List SO) : Out := q8 nl (Ye.lp 3) (fun env os nx => qA (cx K) N nl Ye (qM c72 [1, 1, 0, 1, 0, 0]) env os (qP nx (qu 0 (zu (qA (cx K) N nl Ye (qM c72 [1, 1, 1])) (Ye.jn 8) (qV tab [] nl rs72))))) m3 [(0, x0), (3, x3), (4, x4)] os
noncomputable def qbk (K : zKT) (N nl : Nat) (m3 : Nat) (xs : List SV) (os : List SO) : Out := (fun env os nx => qA (cx K) N nl Ye (qM c72 [1, 1, 0, 1, 0, 0]) env os (qP nx (qu 0 (zu (qA (cx K) N nl Ye (qM c72 [1, 1, 1])) (Ye.jn 8) (qV tab [] nl rs72))))) (jX [0, 3, 4] xs) os (qid K N nl m3)
noncomputable def qgE (K : zKT) (N nl : Nat) (m3 : Nat) (x0 x3 x4 : SV) (os : List SO) : Out := qA (cx K) N nl Ye (qM c72 [1, 1, 0, 1, 0, 0, 1, 1]) [(0, x0), (3, x3), (4, x4)] os (qP (qid K N nl m3) (qu 0 (zu (qA (cx K) N nl Ye (qM c72 [1, 1, 1])) (Ye.jn 8) (qV tab [] nl rs72))))
noncomputable def qd4 (K : zKT) (N nl : Nat) (m3 : Nat) (x0 x3 x4 : SV) (os : List SO) : Out :=
 bd (qc (qw tab .gtr 3 x4 (.v (.int .i64 0))) os) fun v4 o4=>
 qE v4 (bd (qn ⟨tab, qm, K⟩ o4 43 [x0, (.v (.int .i64 4))]) fun v5 o5 =>
 bd (qc (qw tab .add 3 (.v (.int .i64 1)) v5) o5) fun v6 o6=>
 bd (qn ⟨tab, qm, K⟩ o6 43 [x0, (.v (.int .i64 3))]) fun v7 o7=>
 bd (qc (qw tab .add 3 (.v (.int .i64 1)) v7) o7) fun v8 o8=>
 bd (qn ⟨tab, qm, K⟩ o8 90 [x0, v6, v8]) fun v9 o9=>
 bd (qD tab o9 47) fun v10 o10=>
 bd (qp tab o10 47 v10 (some v9)) fun v11 o11=>
 bd (qc (qa tab 47 v10 0) o11) fun v12 o12=>
 bd (qc (qf tab o12 3 v12) o12) fun v13 o13=>
 bd (qc (qa tab 47 v10 1) o13) fun v14 o14=>
 bd (qc (qf tab o14 3 v14) o14) fun v15 o15=>
 bd (qn ⟨tab, qm, K⟩ o15 91 [x3, v13, v15]) fun v16 o16=>
 bd (qc (qw tab .lss 3 v16 (.v (.int .i64 0))) o16) fun v17 o17=>
 qE v17 (bd (qc (qf tab o17 47 v10) o17) fun v18 o18 =>
 bd (qn ⟨tab, qm, K⟩ o18 92 [x3, v18]) fun v19 o19=>
 qgE K N nl m3 x0 v19 x4 o19)
 (qgE K N nl m3 x0 x3 x4 o17))
 (zq tab nl o4 (qx (some x3) (some [])))
noncomputable def qd5 (K : zKT) (N nl : Nat) (m3 : Nat) (x0 x3 x4 : SV) (os : List SO) : Out :=
 bd (qc (qw tab .sub 3 x4 (.v (.int .i64 1))) os) fun v20 o20=>
 qbj K N nl m3 x0 x3 v20 o20
noncomputable def X72 (K : zKT) (N nl : Nat) (x0 : SV) (os : List SO) : Out := qA (cx K) N nl Ye c72 [(0, x0)] os (qV tab [] nl rs72)
noncomputable def B72 (K : zKT) (N nl : Nat) (x0 : SV) (os : List SO) : Out :=
 bd (evN tab 23 os none) fun v1 o1=>
 bd (qv tab o1 23 0 []) fun v2 o2=>
 bd (qn ⟨tab, qm, K⟩ o2 43 [x0, (.v (.int .i64 8))]) fun v3 o3=>
 qbj K N nl N x0 v2 v3 o3
noncomputable def bk73_3 (K : zKT) (N nl : Nat) (m3 : Nat) : Env → List SO → Out := fun env os => q8 nl (JT.lp 3) (fun env os nx => qA (cx K) N nl JT (qM c73 [1, 1, 0, 1, 0, 0]) env os (qP nx (qu 0 (zu (qA (cx K) N nl JT (qM c73 [1, 1, 1])) (JT.jn 7) (qV tab [0] nl rs73))))) m3 (zB (JT.lp 3).alive env) os
noncomputable def qbl (K : zKT) (N nl : Nat) (m3 : Nat) (x3 x6 x7 x8 : SV) (os : List SO) : Out := q8 nl (JT.lp 3) (fun env os nx => qA (cx K) N nl JT (qM c73 [1, 1, 0, 1, 0, 0]) env os (qP nx (qu 0 (zu (qA (cx K) N nl JT (qM c73 [1, 1, 1])) (JT.jn 7) (qV tab [0] nl rs73))))) m3 [(3, x3), (6, x6), (7, x7), (8, x8)] os
noncomputable def qbm (K : zKT) (N nl : Nat) (m3 : Nat) (xs : List SV) (os : List SO) : Out := (fun env os nx => qA (cx K) N nl JT (qM c73 [1, 1, 0, 1, 0, 0]) env os (qP nx (qu 0 (zu (qA (cx K) N nl JT (qM c73 [1, 1, 1])) (JT.jn 7) (qV tab [0] nl rs73))))) (jX [3, 6, 7, 8] xs) os (bk73_3 K N nl m3)
noncomputable def qd6 (K : zKT) (N nl : Nat) (m3 : Nat) (x3 x6 x7 x8 : SV) (os : List SO) : Out :=
 bd (qc (qw tab .lss 3 x8 x7) os) fun v4 o4=>
 qE v4 (bd (qc (qj tab o4 23 x6 x8) o4) fun v5 o5 =>
 bd (qc (qf tab o5 47 v5) o5) fun v6 o6=>
 bd (qD tab o6 47) fun v7 o7=>
 bd (qp tab o7 47 v7 (some v6)) fun v8 o8=>
 bd (qc (qf tab o8 47 v7) o8) fun v9 o9=>
 bd (qn ⟨tab, qm, K⟩ o9 93 [v9]) fun v10 o10=>
 bd (qv tab o10 23 1 [(0, v10)]) fun v11 o11=>
 bd (zx tab o11 23 23 x3 v11) fun v12 o12=>
 bd (qc (qw tab .add 3 x8 (.v (.int .i64 1))) o12) fun v13 o13=>
 qbl K N nl m3 v12 x6 x7 v13 o13)
 (kY tab [0] nl o4 (qx (some x3) (some [])))
noncomputable def X73 (K : zKT) (N nl : Nat) (x0 : SV) (os : List SO) : Out := qA (cx K) N nl JT c73 [(0, x0)] os (qV tab [0] nl rs73)
noncomputable def B73 (K : zKT) (N nl : Nat) (x0 : SV) (os : List SO) : Out :=
 bd (evN tab 23 os none) fun v1 o1=>
 bd (evN tab 23 o1 none) fun v2 o2=>
 bd (ze tab 23 o2 x0) fun v3 o3=>
 qbl K N nl N v2 x0 v3 (.v (.int .i64 0)) o3
noncomputable def X74 (K : zKT) (N nl : Nat) (os : List SO) : Out := qA (cx K) N nl fi74 c74 [] os (qV tab [] nl rs74)
noncomputable def B74 (K : zKT) (N nl : Nat) (os : List SO) : Out :=
 bd (qD tab os 26) fun v1 o1=>
 bd (qv tab o1 23 0 []) fun v2 o2=>
 bd (qn ⟨tab, qm, K⟩ o2 48 [(nilA tab 23)]) fun v3 o3=>
 bd (qv tab o3 23 0 []) fun v4 o4=>
 bd (zL tab o4 26 [(0, (some v2)), (1, (some v3)), (3, (some v4))]) fun v5 o5=>
 bd (qp tab o5 26 v1 (some v5)) fun v6 o6=>
 zq tab nl o6 (qx (qf tab o6 26 v1) (some []))
noncomputable def qbn (K : zKT) (N nl : Nat) (x3 : SV) (os : List SO) : Out := qA (cx K) N nl fi75 (qM c75 [1, 1, 1]) [(3, x3)] os (qV tab [] nl rs75)
noncomputable def qd7 (K : zKT) (N nl : Nat) (x3 : SV) (os : List SO) : Out :=
 zq tab nl os (qx (some x3) (some []))
noncomputable def X75 (K : zKT) (N nl : Nat) (x0 : SV) (os : List SO) : Out := qA (cx K) N nl fi75 c75 [(0, x0)] os (qV tab [] nl rs75)
noncomputable def B75 (K : zKT) (N nl : Nat) (x0 : SV) (os : List SO) : Out :=
 bd (evN tab 23 os none) fun v1 o1=>
 bd (qn ⟨tab, qm, K⟩ o1 72 [x0]) fun v2 o2=>
 bd (qn ⟨tab, qm, K⟩ o2 43 [x0, (.v (.int .i64 20))]) fun v3 o3=>
 bd (qc (qw tab .eql 3 v3 (.v (.int .i64 0))) o3) fun v4 o4=>
 qE v4 (bd (qn ⟨tab, qm, K⟩ o4 94 [x0]) fun v5 o5 =>
 bd (qv tab o5 23 1 [(0, v5)]) fun v6 o6=>
 bd (zx tab o6 23 23 v2 v6) fun v7 o7=>
 qbn K N nl v7 o7)
 (bd (qc (qw tab .eql 3 v3 (.v (.int .i64 1))) o4) fun v8 o8 =>
 qE v8 (bd (ze tab 23 o8 v2) fun v9 o9 =>
 bd (qc (qw tab .gtr 3 v9 (.v (.int .i64 0))) o9) fun v10 o10=>
 qE v10 (bd (ze tab 23 o10 v2) fun v11 o11 =>
 bd (qn ⟨tab, qm, K⟩ o11 43 [x0, v11]) fun v12 o12=>
 bd (qn ⟨tab, qm, K⟩ o12 94 [x0]) fun v13 o13=>
 bd (qc (qj tab o13 23 v2 v12) o13) fun v14 o14=>
 bd (qp tab o14 47 v14 (some v13)) fun v15 o15=>
 qbn K N nl v2 o15)
 (qbn K N nl v2 o10))
 (qbn K N nl v2 o8))
noncomputable def bk77_2 (K : zKT) (N nl : Nat) (m2 : Nat) : Env → List SO → Out := fun env os => q8 nl (qdr.lp 2) (fun env os nx => qA (cx K) N nl qdr (qM c77 [1, 0, 1, 0, 0]) env os (qP nx (qu 0 (zu (qA (cx K) N nl qdr (qM c77 [1, 1])) (qdr.jn 7) (qV tab [] nl rs77))))) m2 (zB (qdr.lp 2).alive env) os
noncomputable def qbo (K : zKT) (N nl : Nat) (m2 : Nat) (x0 x1 x7 x8 : SV) (os : List SO) : Out := q8 nl (qdr.lp 2) (fun env os nx => qA (cx K) N nl qdr (qM c77 [1, 0, 1, 0, 0]) env os (qP nx (qu 0 (zu (qA (cx K) N nl qdr (qM c77 [1, 1])) (qdr.jn 7) (qV tab [] nl rs77))))) m2 [(0, x0), (1, x1), (7, x7), (8, x8)] os
noncomputable def qd8 (K : zKT) (N nl : Nat) (m2 : Nat) (x0 x1 x7 x8 : SV) (os : List SO) : Out :=
 bd (qc (qw tab .lss 3 x8 x7) os) fun v2 o2=>
 qE v2 (bd (qc (qj tab o2 24 x0 x8) o2) fun v3 o3 =>
 bd (qc (qf tab o3 3 v3) o3) fun v4 o4=>
 bd (wJ ⟨tab, qm, K⟩ o4 x1 [v4]) fun v5 o5=>
 qE v5 (zq tab nl o5 (qx (some x8) (some [])))
 (bd (qc (qw tab .add 3 x8 (.v (.int .i64 1))) o5) fun v6 o6 =>
 qbo K N nl m2 x0 x1 x7 v6 o6))
 (zq tab nl o2 (qx (some (.v (.int .i64 (-1)))) (some [])))
noncomputable def X77 (K : zKT) (N nl : Nat) (x0 x1 : SV) (os : List SO) : Out := qA (cx K) N nl qdr c77 [(0, x0), (1, x1)] os (qV tab [] nl rs77)
noncomputable def B77 (K : zKT) (N nl : Nat) (x0 x1 : SV) (os : List SO) : Out :=
 bd (ze tab 24 os x0) fun v1 o1=>
 qbo K N nl N x0 x1 v1 (.v (.int .i64 0)) o1
noncomputable def bk78_2 (K : zKT) (N nl : Nat) (m2 : Nat) : Env → List SO → Out := fun env os => q8 nl (JU.lp 2) (fun env os nx => qA (cx K) N nl JU (qM c78 [1, 0, 1, 0, 0]) env os (qP nx (qu 0 (zu (qA (cx K) N nl JU (qM c78 [1, 1])) (JU.jn 7) (qV tab [] nl rs78))))) m2 (zB (JU.lp 2).alive env) os
noncomputable def qbp (K : zKT) (N nl : Nat) (m2 : Nat) (x0 x5 x6 x7 : SV) (os : List SO) : Out := q8 nl (JU.lp 2) (fun env os nx => qA (cx K) N nl JU (qM c78 [1, 0, 1, 0, 0]) env os (qP nx (qu 0 (zu (qA (cx K) N nl JU (qM c78 [1, 1])) (JU.jn 7) (qV tab [] nl rs78))))) m2 [(0, x0), (5, x5), (6, x6), (7, x7)] os
noncomputable def qbq (K : zKT) (N nl : Nat) (m2 : Nat) (xs : List SV) (os : List SO) : Out := (fun env os nx => qA (cx K) N nl JU (qM c78 [1, 0, 1, 0, 0]) env os (qP nx (qu 0 (zu (qA (cx K) N nl JU (qM c78 [1, 1])) (JU.jn 7) (qV tab [] nl rs78))))) (jX [0, 5, 6, 7] xs) os (bk78_2 K N nl m2)
noncomputable def qd9 (K : zKT) (N nl : Nat) (m2 : Nat) (x0 x5 x6 x7 : SV) (os : List SO) : Out :=
 bd (qc (qw tab .lss 3 x7 x6) os) fun v2 o2=>
 qE v2 (bd (qc (qj tab o2 23 x5 x7) o2) fun v3 o3 =>
 bd (qc (qf tab o3 47 v3) o3) fun v4 o4=>
 bd (qD tab o4 47) fun v5 o5=>
 bd (qp tab o5 47 v5 (some v4)) fun v6 o6=>
 bd (qc (qf tab o6 47 v5) o6) fun v7 o7=>
 bd (qn ⟨tab, qm, K⟩ o7 97 [v7]) fun v8 o8=>
 bd (qc (unS .not v8) o8) fun v9 o9=>
 bd (gd v9 false (some (x7, o9)) o9) fun v10 o10=>
 bd (gd v9 false (qc (qw tab .gtr 3 v10 (.v (.int .i64 0))) o10) o10) fun v11 o11=>
 bd (gd v9 false (some (v11, o11)) o11) fun v12 o12=>
 bd (gd v12 true (some (x0, o12)) o12) fun v13 o13=>
 bd (gd v12 true (some (x7, o13)) o13) fun v14 o14=>
 bd (gd v12 true (qc (qw tab .sub 3 v14 (.v (.int .i64 1))) o14) o14) fun v15 o15=>
 bd (gd v12 true (qc (qj tab o15 23 v13 v15) o15) o15) fun v16 o16=>
 bd (gd v12 true (qc (qf tab o16 47 v16) o16) o16) fun v17 o17=>
 bd (gd v12 true (qc (qf tab o17 47 v5) o17) o17) fun v18 o18=>
 bd (gd v12 true (qn ⟨tab, qm, K⟩ o18 98 [v17, v18]) o18) fun v19 o19=>
 bd (gd v12 true (qc (qw tab .geq 3 v19 (.v (.int .i64 0))) o19) o19) fun v20 o20=>
 bd (gd v9 false (qc (qL v12 v20 (.v (.bool false))) o20) o20) fun v21 o21=>
 bd (qc (qL v9 (.v (.bool true)) v21) o21) fun v22 o22=>
 qE v22 (zq tab nl o22 (qx (some (.v (.bool false))) (some [])))
 (bd (qc (qw tab .add 3 x7 (.v (.int .i64 1))) o22) fun v23 o23 =>
 qbp K N nl m2 x0 x5 x6 v23 o23))
 (zq tab nl o2 (qx (some (.v (.bool true))) (some [])))
noncomputable def X78 (K : zKT) (N nl : Nat) (x0 : SV) (os : List SO) : Out := qA (cx K) N nl JU c78 [(0, x0)] os (qV tab [] nl rs78)
noncomputable def B78 (K : zKT) (N nl : Nat) (x0 : SV) (os : List SO) : Out :=
 bd (ze tab 23 os x0) fun v1 o1=>
 qbp K N nl N x0 x0 v1 (.v (.int .i64 0)) o1
noncomputable def X79 (K : zKT) (N nl : Nat) (x0 x1 : SV) (os : List SO) : Out := qA (cx K) N nl fi79 c79 [(0, x0), (1, x1)] os (qV tab [] nl rs79)
noncomputable def B79 (K : zKT) (N nl : Nat) (x0 x1 : SV) (os : List SO) : Out :=
 bd (qn ⟨tab, qm, K⟩ os 99 [x0, x1]) fun v1 o1=>
 bd (qc (qw tab .geq 3 v1 (.v (.int .i64 0))) o1) fun v2 o2=>
 zq tab nl o2 (qx (some v2) (some []))
noncomputable def X80 (K : zKT) (N nl : Nat) (x0 x1 : SV) (os : List SO) : Out := qA (cx K) N nl fi80 c80 [(0, x0), (1, x1)] os (qV tab [] nl rs80)
noncomputable def B80 (K : zKT) (N nl : Nat) (x0 x1 : SV) (os : List SO) : Out :=
 bd (wt tab os 43 (some x0)) fun v1 o1=>
 bd (qc (qf tab o1 23 x1) o1) fun v2 o2=>
 bd (qc (qf tab o2 43 v1) o2) fun v3 o3=>
 bd (qn ⟨tab, qm, K⟩ o3 81 [v2, v3]) fun v4 o4=>
 bd (qc (unS .not v4) o4) fun v5 o5=>
 zq tab nl o5 (qx (some v5) (some []))
noncomputable def X81 (K : zKT) (N nl : Nat) (x0 x1 : SV) (os : List SO) : Out := qA (cx K) N nl fi81 c81 [(0, x0), (1, x1)] os (qV tab [] nl rs81)
noncomputable def B81 (K : zKT) (N nl : Nat) (x0 x1 : SV) (os : List SO) : Out :=
 bd (wt tab os 43 (some x1)) fun v1 o1=>
 bd (qn ⟨tab, qm, K⟩ o1 100 [x0, (SV.fn 101 [v1])]) fun v2 o2=>
 zq tab nl o2 (qx (some v2) (some []))
noncomputable def bk82_3 (K : zKT) (N nl : Nat) (m3 : Nat) : Env → List SO → Out := fun env os => q8 nl (JV.lp 3) (fun env os nx => qA (cx K) N nl JV (qM c82 [1, 1, 0, 1, 0, 0]) env os (qP nx (qu 0 (zu (qA (cx K) N nl JV (qM c82 [1, 1, 1])) (JV.jn 6) (qV tab [0] nl rs82))))) m3 (zB (JV.lp 3).alive env) os
noncomputable def qbr (K : zKT) (N nl : Nat) (m3 : Nat) (x0 x3 x4 : SV) (os : List SO) : Out := q8 nl (JV.lp 3) (fun env os nx => qA (cx K) N nl JV (qM c82 [1, 1, 0, 1, 0, 0]) env os (qP nx (qu 0 (zu (qA (cx K) N nl JV (qM c82 [1, 1, 1])) (JV.jn 6) (qV tab [0] nl rs82))))) m3 [(0, x0), (3, x3), (4, x4)] os
noncomputable def qbs (K : zKT) (N nl : Nat) (m3 : Nat) (xs : List SV) (os : List SO) : Out := (fun env os nx => qA (cx K) N nl JV (qM c82 [1, 1, 0, 1, 0, 0]) env os (qP nx (qu 0 (zu (qA (cx K) N nl JV (qM c82 [1, 1, 1])) (JV.jn 6) (qV tab [0] nl rs82))))) (jX [0, 3, 4] xs) os (bk82_3 K N nl m3)
noncomputable def qea (K : zKT) (N nl : Nat) (m3 : Nat) (x0 x3 x4 : SV) (os : List SO) : Out :=
 bd (ze tab 23 os x0) fun v3 o3=>
 bd (qc (qw tab .lss 3 x4 v3) o3) fun v4 o4=>
 qE v4 (bd (qc (qj tab o4 23 x0 x4) o4) fun v5 o5 =>
 bd (qc (qf tab o5 47 v5) o5) fun v6 o6=>
 bd (qn ⟨tab, qm, K⟩ o6 102 [v6]) fun v7 o7=>
 bd (qv tab o7 23 1 [(0, v7)]) fun v8 o8=>
 bd (zx tab o8 23 23 x3 v8) fun v9 o9=>
 bd (qc (qw tab .add 3 x4 (.v (.int .i64 1))) o9) fun v10 o10=>
 qbr K N nl m3 x0 v9 v10 o10)
 (kY tab [0] nl o4 (qx (some x3) (some [])))
noncomputable def X82 (K : zKT) (N nl : Nat) (x0 : SV) (os : List SO) : Out := qA (cx K) N nl JV c82 [(0, x0)] os (qV tab [0] nl rs82)
noncomputable def B82 (K : zKT) (N nl : Nat) (x0 : SV) (os : List SO) : Out :=
 bd (evN tab 23 os none) fun v1 o1=>
 bd (qv tab o1 23 0 []) fun v2 o2=>
 qbr K N nl N x0 v2 (.v (.int .i64 0)) o2
noncomputable def X84 (K : zKT) (N nl : Nat) (x0 : SV) (os : List SO) : Out := qA (cx K) N nl fi84 c84 [(0, x0)] os (qV tab [] nl rs84)
noncomputable def B84 (K : zKT) (N nl : Nat) (x0 : SV) (os : List SO) : Out :=
 bd (qn ⟨tab, qm, K⟩ os 103 [x0]) fun v1 o1=>
 zq tab nl o1 (qx (some v1) (some []))
noncomputable def bk85_2 (K : zKT) (N nl : Nat) (m2 : Nat) : Env → List SO → Out := fun env os => q8 nl (qds.lp 2) (fun env os nx => qA (cx K) N nl qds (qM c85 [1, 0, 1, 0, 0]) env os (qP nx (qu 0 (zu (qA (cx K) N nl qds (qM c85 [1, 1])) (qds.jn 6) (qV tab [] nl rs85))))) m2 (zB (qds.lp 2).alive env) os
noncomputable def qbt (K : zKT) (N nl : Nat) (m2 : Nat) (x0 x3 : SV) (os : List SO) : Out := q8 nl (qds.lp 2) (fun env os nx => qA (cx K) N nl qds (qM c85 [1, 0, 1, 0, 0]) env os (qP nx (qu 0 (zu (qA (cx K) N nl qds (qM c85 [1, 1])) (qds.jn 6) (qV tab [] nl rs85))))) m2 [(0, x0), (3, x3)] os
noncomputable def qeb (K : zKT) (N nl : Nat) (m2 : Nat) (x0 x3 : SV) (os : List SO) : Out :=
 bd (ze tab 23 os x0) fun v1 o1=>
 bd (qc (qw tab .lss 3 x3 v1) o1) fun v2 o2=>
 qE v2 (bd (qc (qw tab .sub 3 x3 (.v (.int .i64 1))) o2) fun v3 o3 =>
 bd (qc (qj tab o3 23 x0 v3) o3) fun v4 o4=>
 bd (qc (qa tab 47 v4 0) o4) fun v5 o5=>
 bd (qc (qf tab o5 3 v5) o5) fun v6 o6=>
 bd (qc (qj tab o6 23 x0 x3) o6) fun v7 o7=>
 bd (qc (qa tab 47 v7 0) o7) fun v8 o8=>
 bd (qc (qf tab o8 3 v8) o8) fun v9 o9=>
 bd (qc (qw tab .geq 3 v6 v9) o9) fun v10 o10=>
 qE v10 (zq tab nl o10 (qx (some (.v (.bool false))) (some [])))
 (bd (qc (qw tab .add 3 x3 (.v (.int .i64 1))) o10) fun v11 o11 =>
 qbt K N nl m2 x0 v11 o11))
 (zq tab nl o2 (qx (some (.v (.bool true))) (some [])))
noncomputable def X85 (K : zKT) (N nl : Nat) (x0 : SV) (os : List SO) : Out := qA (cx K) N nl qds c85 [(0, x0)] os (qV tab [] nl rs85)
noncomputable def B85 (K : zKT) (N nl : Nat) (x0 : SV) (os : List SO) : Out :=
 qbt K N nl N x0 (.v (.int .i64 1)) os
noncomputable def X86 (K : zKT) (N nl : Nat) (x0 x1 : SV) (os : List SO) : Out := qA (cx K) N nl fi86 c86 [(0, x0), (1, x1)] os (qV tab [] nl rs86)
noncomputable def B86 (K : zKT) (N nl : Nat) (x0 x1 : SV) (os : List SO) : Out :=
 bd (wt tab os 43 (some x1)) fun v1 o1=>
 bd (qc (qa tab 43 v1 0) o1) fun v2 o2=>
 bd (qc (qf tab o2 3 v2) o2) fun v3 o3=>
 bd (qn ⟨tab, qm, K⟩ o3 104 [x0, v3]) fun v4 o4=>
 bd (qc (ql v4 0) o4) fun v5 o5=>
 bd (qc (ql v4 1) o5) fun v6 o6=>
 bd (qD tab o6 47) fun v7 o7=>
 bd (qp tab o7 47 v7 (some v5)) fun v8 o8=>
 bd (gd v6 true (qc (qa tab 47 v7 1) o8) o8) fun v9 o9=>
 bd (gd v6 true (qc (qf tab o9 3 v9) o9) o9) fun v10 o10=>
 bd (gd v6 true (qc (qa tab 43 v1 1) o10) o10) fun v11 o11=>
 bd (gd v6 true (qc (qf tab o11 3 v11) o11) o11) fun v12 o12=>
 bd (gd v6 true (qc (qw tab .geq 3 v10 v12) o12) o12) fun v13 o13=>
 bd (qc (qL v6 v13 (.v (.bool false))) o13) fun v14 o14=>
 zq tab nl o14 (qx (some v14) (some []))
noncomputable def qie (K : zKT) (N nl : Nat) (m2 : Nat) : Env → List SO → Out := fun env os => q8 nl (QQ.lp 2) (fun env os nx => qA (cx K) N nl QQ (qM c87 [1, 0, 1, 0, 0]) env os (qP nx (qu 0 (zu (qA (cx K) N nl QQ (qM c87 [1, 1])) (QQ.jn 9) (qV tab [] nl rs87))))) m2 (zB (QQ.lp 2).alive env) os
noncomputable def bk87_5 (K : zKT) (N nl : Nat) (m2 : Nat) (m5 : Nat) : Env → List SO → Out := fun env os => q8 nl (QQ.lp 5) (fun env os nx => qA (cx K) N nl QQ (qM c87 [1, 0, 1, 0, 0, 1, 0, 0, 1, 0, 0]) env os (qP nx (qu 2 (qu 1 (zu (qA (cx K) N nl QQ (qM c87 [1, 0, 1, 0, 0, 1, 1])) (QQ.jn 3) (qP (qie K N nl m2) (qu 0 (zu (qA (cx K) N nl QQ (qM c87 [1, 1])) (QQ.jn 9) (qV tab [] nl rs87))))))))) m5 (zB (QQ.lp 5).alive env) os
noncomputable def XD (K : zKT) (N nl : Nat) (m2 : Nat) (x0 x1 x2 x7 : SV) (os : List SO) : Out := q8 nl (QQ.lp 2) (fun env os nx => qA (cx K) N nl QQ (qM c87 [1, 0, 1, 0, 0]) env os (qP nx (qu 0 (zu (qA (cx K) N nl QQ (qM c87 [1, 1])) (QQ.jn 9) (qV tab [] nl rs87))))) m2 [(0, x0), (1, x1), (2, x2), (7, x7)] os
noncomputable def qbu (K : zKT) (N nl : Nat) (m2 : Nat) (m5 : Nat) (x0 x1 x2 x7 x8 : SV) (os : List SO) : Out := q8 nl (QQ.lp 5) (fun env os nx => qA (cx K) N nl QQ (qM c87 [1, 0, 1, 0, 0, 1, 0, 0, 1, 0, 0]) env os (qP nx (qu 2 (qu 1 (zu (qA (cx K) N nl QQ (qM c87 [1, 0, 1, 0, 0, 1, 1])) (QQ.jn 3) (qP (qie K N nl m2) (qu 0 (zu (qA (cx K) N nl QQ (qM c87 [1, 1])) (QQ.jn 9) (qV tab [] nl rs87))))))))) m5 [(0, x0), (1, x1), (2, x2), (7, x7), (8, x8)] os
noncomputable def qec (K : zKT) (N nl : Nat) (m2 : Nat) (x0 x1 x2 x7 : SV) (os : List SO) : Out :=
 bd (qc (qw tab .lss 3 x7 x1) os) fun v1 o1=>
 qE v1 (qbu K N nl m2 N x0 x1 x2 x7 (.v (.int .i64 0)) o1)
 (zq tab nl o1 (qx (some (.v (.int .i64 (-1)))) (some [])))
noncomputable def qed (K : zKT) (N nl : Nat) (m2 : Nat) (m5 : Nat) (x0 x1 x2 x7 x8 : SV) (os : List SO) : Out :=
 bd (qc (qj tab os 23 x0 x7) os) fun v2 o2=>
 bd (qc (qa tab 47 v2 2) o2) fun v3 o3=>
 bd (qc (qf tab o3 45 v3) o3) fun v4 o4=>
 bd (ze tab 45 o4 v4) fun v5 o5=>
 bd (qc (qw tab .lss 3 x8 v5) o5) fun v6 o6=>
 qE v6 (bd (qc (qj tab o6 23 x0 x7) o6) fun v7 o7 =>
 bd (qc (qa tab 47 v7 2) o7) fun v8 o8=>
 bd (qc (qf tab o8 45 v8) o8) fun v9 o9=>
 bd (qc (qj tab o9 45 v9 x8) o9) fun v10 o10=>
 bd (qc (qa tab 68 v10 0) o10) fun v11 o11=>
 bd (qc (qf tab o11 3 v11) o11) fun v12 o12=>
 bd (qc (qw tab .eql 3 v12 x2) o12) fun v13 o13=>
 qE v13 (zq tab nl o13 (qx (some x7) (some [])))
 (bd (qc (qw tab .add 3 x8 (.v (.int .i64 1))) o13) fun v14 o14 =>
 qbu K N nl m2 m5 x0 x1 x2 x7 v14 o14))
 (bd (qc (qw tab .add 3 x7 (.v (.int .i64 1))) o6) fun v15 o15 =>
 XD K N nl m2 x0 x1 x2 v15 o15)
noncomputable def X87 (K : zKT) (N nl : Nat) (x0 x1 x2 : SV) (os : List SO) : Out := qA (cx K) N nl QQ c87 [(0, x0), (1, x1), (2, x2)] os (qV tab [] nl rs87)
noncomputable def B87 (K : zKT) (N nl : Nat) (x0 x1 x2 : SV) (os : List SO) : Out :=
 XD K N nl N x0 x1 x2 (.v (.int .i64 0)) os
noncomputable def bk88_2 (K : zKT) (N nl : Nat) (m2 : Nat) : Env → List SO → Out := fun env os => q8 nl (qdt.lp 2) (fun env os nx => qA (cx K) N nl qdt (qM c88 [1, 0, 1, 0, 0]) env os (qP nx (qu 0 (zu (qA (cx K) N nl qdt (qM c88 [1, 1])) (qdt.jn 7) (qV tab [] nl rs88))))) m2 (zB (qdt.lp 2).alive env) os
noncomputable def qbv (K : zKT) (N nl : Nat) (m2 : Nat) (x0 x1 x7 x8 : SV) (os : List SO) : Out := q8 nl (qdt.lp 2) (fun env os nx => qA (cx K) N nl qdt (qM c88 [1, 0, 1, 0, 0]) env os (qP nx (qu 0 (zu (qA (cx K) N nl qdt (qM c88 [1, 1])) (qdt.jn 7) (qV tab [] nl rs88))))) m2 [(0, x0), (1, x1), (7, x7), (8, x8)] os
noncomputable def qee (K : zKT) (N nl : Nat) (m2 : Nat) (x0 x1 x7 x8 : SV) (os : List SO) : Out :=
 bd (qc (qw tab .lss 3 x8 x7) os) fun v2 o2=>
 qE v2 (bd (qc (qj tab o2 48 x0 x8) o2) fun v3 o3 =>
 bd (qc (qf tab o3 34 v3) o3) fun v4 o4=>
 bd (wJ ⟨tab, qm, K⟩ o4 x1 [v4]) fun v5 o5=>
 qE v5 (zq tab nl o5 (qx (some x8) (some [])))
 (bd (qc (qw tab .add 3 x8 (.v (.int .i64 1))) o5) fun v6 o6 =>
 qbv K N nl m2 x0 x1 x7 v6 o6))
 (zq tab nl o2 (qx (some (.v (.int .i64 (-1)))) (some [])))
noncomputable def X88 (K : zKT) (N nl : Nat) (x0 x1 : SV) (os : List SO) : Out := qA (cx K) N nl qdt c88 [(0, x0), (1, x1)] os (qV tab [] nl rs88)
noncomputable def B88 (K : zKT) (N nl : Nat) (x0 x1 : SV) (os : List SO) : Out :=
 bd (ze tab 48 os x0) fun v1 o1=>
 qbv K N nl N x0 x1 v1 (.v (.int .i64 0)) o1
noncomputable def bk89_4 (K : zKT) (N nl : Nat) (m4 : Nat) : Env → List SO → Out := fun env os => q8 nl (yw.lp 4) (fun env os nx => qA (cx K) N nl yw (qM c89 [1, 1, 1, 0, 1, 0, 0]) env os (qP nx (qu 0 (zu (qA (cx K) N nl yw (qM c89 [1, 1, 1, 1])) (yw.jn 7) (qV tab [] nl qgq))))) m4 (zB (yw.lp 4).alive env) os
noncomputable def J5 (K : zKT) (N nl : Nat) (m9 : Nat) : Env → List SO → Out := fun env os => q8 nl (yw.lp 9) (fun env os nx => qA (cx K) N nl yw (qM c89 [1, 1, 1, 1, 1, 0, 1, 0, 0]) env os (qP nx (qu 2 (zu (qA (cx K) N nl yw (qM c89 [1, 1, 1, 1, 1, 1])) (yw.jn 21) (qV tab [] nl qgq))))) m9 (zB (yw.lp 9).alive env) os
noncomputable def bk89_17 (K : zKT) (N nl : Nat) (m9 : Nat) (m17 : Nat) : Env → List SO → Out := fun env os => q8 nl (yw.lp 17) (fun env os nx => qA (cx K) N nl yw (qM c89 [1, 1, 1, 1, 1, 0, 1, 0, 0, 1, 0, 0, 1, 1, 1, 1, 0, 1, 0, 0]) env os (qP nx (qu 4 (zu (qA (cx K) N nl yw (qM c89 [1, 1, 1, 1, 1, 0, 1, 0, 0, 1, 0, 0, 1, 1, 1, 1, 1])) (yw.jn 20) (qu 3 (zu (qA (cx K) N nl yw (qM c89 [1, 1, 1, 1, 1, 0, 1, 0, 0, 1, 1])) (yw.jn 10) (qP (J5 K N nl m9) (qu 2 (zu (qA (cx K) N nl yw (qM c89 [1, 1, 1, 1, 1, 1])) (yw.jn 21) (qV tab [] nl qgq)))))))))) m17 (zB (yw.lp 17).alive env) os
noncomputable def qbw (K : zKT) (N nl : Nat) (m4 : Nat) (x0 x1 x8 x9 : SV) (os : List SO) : Out := q8 nl (yw.lp 4) (fun env os nx => qA (cx K) N nl yw (qM c89 [1, 1, 1, 0, 1, 0, 0]) env os (qP nx (qu 0 (zu (qA (cx K) N nl yw (qM c89 [1, 1, 1, 1])) (yw.jn 7) (qV tab [] nl qgq))))) m4 [(0, x0), (1, x1), (8, x8), (9, x9)] os
noncomputable def qbx (K : zKT) (N nl : Nat) (m9 : Nat) (x0 x1 x8 x10 x11 : SV) (os : List SO) : Out := q8 nl (yw.lp 9) (fun env os nx => qA (cx K) N nl yw (qM c89 [1, 1, 1, 1, 1, 0, 1, 0, 0]) env os (qP nx (qu 2 (zu (qA (cx K) N nl yw (qM c89 [1, 1, 1, 1, 1, 1])) (yw.jn 21) (qV tab [] nl qgq))))) m9 [(0, x0), (1, x1), (8, x8), (10, x10), (11, x11)] os
noncomputable def qby (K : zKT) (N nl : Nat) (m9 : Nat) (xs : List SV) (os : List SO) : Out := (fun env os nx => qA (cx K) N nl yw (qM c89 [1, 1, 1, 1, 1, 0, 1, 0, 0]) env os (qP nx (qu 2 (zu (qA (cx K) N nl yw (qM c89 [1, 1, 1, 1, 1, 1])) (yw.jn 21) (qV tab [] nl qgq))))) (jX [0, 1, 8, 10, 11] xs) os (J5 K N nl m9)
noncomputable def Ko (K : zKT) (N nl : Nat) (m9 : Nat) (x0 x1 x8 x10 x11 : SV) (os : List SO) : Out := qA (cx K) N nl yw (qM c89 [1, 1, 1, 1, 1, 0, 1, 0, 0, 1, 1]) [(0, x0), (1, x1), (8, x8), (10, x10), (11, x11)] os (qP (J5 K N nl m9) (qu 2 (zu (qA (cx K) N nl yw (qM c89 [1, 1, 1, 1, 1, 1])) (yw.jn 21) (qV tab [] nl qgq))))
noncomputable def Kp (K : zKT) (N nl : Nat) (m9 : Nat) (m17 : Nat) (x0 x1 x8 x10 x12 x14 : SV) (os : List SO) : Out := q8 nl (yw.lp 17) (fun env os nx => qA (cx K) N nl yw (qM c89 [1, 1, 1, 1, 1, 0, 1, 0, 0, 1, 0, 0, 1, 1, 1, 1, 0, 1, 0, 0]) env os (qP nx (qu 4 (zu (qA (cx K) N nl yw (qM c89 [1, 1, 1, 1, 1, 0, 1, 0, 0, 1, 0, 0, 1, 1, 1, 1, 1])) (yw.jn 20) (qu 3 (zu (qA (cx K) N nl yw (qM c89 [1, 1, 1, 1, 1, 0, 1, 0, 0, 1, 1])) (yw.jn 10) (qP (J5 K N nl m9) (qu 2 (zu (qA (cx K) N nl yw (qM c89 [1, 1, 1, 1, 1, 1])) (yw.jn 21) (qV tab [] nl qgq)))))))))) m17 [(0, x0), (1, x1), (8, x8), (10, x10), (12, x12), (14, x14)] os
noncomputable def qef (K : zKT) (N nl : Nat) (m4 : Nat) (x0 x1 x8 x9 : SV) (os : List SO) : Out :=
 bd (ze tab 23 os x1) fun v5 o5=>
 bd (qc (qw tab .lss 3 x9 v5) o5) fun v6 o6=>
 qE v6 (bd (qc (qj tab o6 23 x1 x9) o6) fun v7 o7 =>
 bd (qc (qa tab 47 v7 0) o7) fun v8 o8=>
 bd (qc (qf tab o8 3 v8) o8) fun v9 o9=>
 bd (qc (qj tab o9 114 x8 v9) o9) fun v10 o10=>
 bd (qp tab o10 4 v10 (some (.v (.bool true)))) fun v11 o11=>
 bd (qc (qw tab .add 3 x9 (.v (.int .i64 1))) o11) fun v12 o12=>
 qbw K N nl m4 x0 x1 x8 v12 o12)
 (bd (qv tab o6 23 0 []) fun v13 o13 =>
 qbx K N nl N x0 x1 x8 v13 (.v (.int .i64 1)) o13)
noncomputable def qeg (K : zKT) (N nl : Nat) (m9 : Nat) (x0 x1 x8 x10 x11 : SV) (os : List SO) : Out :=
 bd (qc (qw tab .leq 3 x11 (.v (.int .i64 4))) os) fun v14 o14=>
 qE v14 (bd (qc (qj tab o14 114 x8 x11) o14) fun v15 o15 =>
 bd (qc (qf tab o15 4 v15) o15) fun v16 o16=>
 bd (qc (unS .not v16) o16) fun v17 o17=>
 bd (gd v17 false (some (x10, o17)) o17) fun v18 o18=>
 bd (gd v17 false (some (x11, o18)) o18) fun v19 o19=>
 bd (gd v17 false (qn ⟨tab, qm, K⟩ o19 105 [v18, v19]) o19) fun v20 o20=>
 bd (qc (qL v17 (.v (.bool true)) v20) o20) fun v21 o21=>
 qE v21 (Ko K N nl m9 x0 x1 x8 x10 x11 o21)
 (bd (qn ⟨tab, qm, K⟩ o21 106 [x0, x1, x11]) fun v22 o22 =>
 bd (qc (ql v22 0) o22) fun v23 o23=>
 bd (qc (ql v22 1) o23) fun v24 o24=>
 bd (qD tab o24 47) fun v25 o25=>
 bd (qp tab o25 47 v25 (some v23)) fun v26 o26=>
 bd (qc (unS .not v24) o26) fun v27 o27=>
 qE v27 (bd (qv tab o27 23 0 []) fun v28 o28 =>
 zq tab nl o28 (qx (some v28) (qx (some (.v (.bool false))) (some []))))
 (bd (qc (qf tab o27 47 v25) o27) fun v29 o29 =>
 bd (qn ⟨tab, qm, K⟩ o29 92 [x10, v29]) fun v30 o30=>
 Kp K N nl m9 N x0 x1 x8 v30 v25 (.v (.int .i64 0)) o30)))
 (bd (qn ⟨tab, qm, K⟩ o14 63 [x10]) fun v31 o31 =>
 bd (qc (unS .not v31) o31) fun v32 o32=>
 qE v32 (bd (qv tab o32 23 0 []) fun v33 o33 =>
 zq tab nl o33 (qx (some v33) (qx (some (.v (.bool false))) (some []))))
 (zq tab nl o32 (qx (some x10) (qx (some (.v (.bool true))) (some [])))))
noncomputable def Wj (K : zKT) (N nl : Nat) (m9 : Nat) (x0 x1 x8 x10 x11 : SV) (os : List SO) : Out :=
 bd (qc (qw tab .add 3 x11 (.v (.int .i64 1))) os) fun v34 o34=>
 qbx K N nl m9 x0 x1 x8 x10 v34 o34
noncomputable def XE (K : zKT) (N nl : Nat) (m9 : Nat) (m17 : Nat) (x0 x1 x8 x10 x12 x14 : SV) (os : List SO) : Out :=
 bd (qc (qa tab 47 x12 3) os) fun v35 o35=>
 bd (qc (qf tab o35 44 v35) o35) fun v36 o36=>
 bd (ze tab 44 o36 v36) fun v37 o37=>
 bd (qc (qw tab .lss 3 x14 v37) o37) fun v38 o38=>
 qE v38 (bd (qc (qa tab 47 x12 3) o38) fun v39 o39 =>
 bd (qc (qf tab o39 44 v39) o39) fun v40 o40=>
 bd (qc (qj tab o40 44 v40 x14) o40) fun v41 o41=>
 bd (qc (qa tab 43 v41 0) o41) fun v42 o42=>
 bd (qc (qf tab o42 3 v42) o42) fun v43 o43=>
 bd (qc (qj tab o43 114 x8 v43) o43) fun v44 o44=>
 bd (qp tab o44 4 v44 (some (.v (.bool true)))) fun v45 o45=>
 bd (qc (qw tab .add 3 x14 (.v (.int .i64 1))) o45) fun v46 o46=>
 Kp K N nl m9 m17 x0 x1 x8 x10 x12 v46 o46)
 (Ko K N nl m9 x0 x1 x8 x10 (.v (.int .i64 0)) o38)
noncomputable def X89 (K : zKT) (N nl : Nat) (x0 x1 x2 : SV) (os : List SO) : Out := qA (cx K) N nl yw c89 [(0, x0), (1, x1), (2, x2)] os (qV tab [] nl qgq)
noncomputable def B89 (K : zKT) (N nl : Nat) (x0 x1 x2 : SV) (os : List SO) : Out :=
 bd (evN tab 23 os none) fun v1 o1=>
 bd (qax tab o1 114 (.v (.int .i64 5)) (.v (.int .i64 5))) fun v2 o2=>
 bd (qc (qj tab o2 114 v2 x2) o2) fun v3 o3=>
 bd (qp tab o3 4 v3 (some (.v (.bool true)))) fun v4 o4=>
 qbw K N nl N x0 x1 v2 (.v (.int .i64 0)) o4
noncomputable def bk90_4 (K : zKT) (N nl : Nat) (m4 : Nat) : Env → List SO → Out := fun env os => q8 nl (jz.lp 4) (fun env os nx => qA (cx K) N nl jz (qM c90 [1, 1, 1, 0, 1, 0, 0]) env os (qP nx (qu 0 (zu (qA (cx K) N nl jz (qM c90 [1, 1, 1, 1])) (jz.jn 8) (qV tab [] nl qh8))))) m4 (zB (jz.lp 4).alive env) os
noncomputable def qif (K : zKT) (N nl : Nat) (m9 : Nat) : Env → List SO → Out := fun env os => q8 nl (jz.lp 9) (fun env os nx => qA (cx K) N nl jz (qM c90 [1, 1, 1, 1, 0, 1, 0, 0]) env os (qP nx (qu 2 (zu (qA (cx K) N nl jz (qM c90 [1, 1, 1, 1, 1])) (jz.jn 13) (qV tab [] nl qh8))))) m9 (zB (jz.lp 9).alive env) os
noncomputable def qbz (K : zKT) (N nl : Nat) (m4 : Nat) (x0 x1 x6 x7 x8 x9 : SV) (os : List SO) : Out := q8 nl (jz.lp 4) (fun env os nx => qA (cx K) N nl jz (qM c90 [1, 1, 1, 0, 1, 0, 0]) env os (qP nx (qu 0 (zu (qA (cx K) N nl jz (qM c90 [1, 1, 1, 1])) (jz.jn 8) (qV tab [] nl qh8))))) m4 [(0, x0), (1, x1), (6, x6), (7, x7), (8, x8), (9, x9)] os
noncomputable def qbA (K : zKT) (N nl : Nat) (m4 : Nat) (xs : List SV) (os : List SO) : Out := (fun env os nx => qA (cx K) N nl jz (qM c90 [1, 1, 1, 0, 1, 0, 0]) env os (qP nx (qu 0 (zu (qA (cx K) N nl jz (qM c90 [1, 1, 1, 1])) (jz.jn 8) (qV tab [] nl qh8))))) (jX [0, 1, 6, 7, 8, 9] xs) os (bk90_4 K N nl m4)
noncomputable def qbB (K : zKT) (N nl : Nat) (m9 : Nat) (x0 x1 x6 x7 x10 : SV) (os : List SO) : Out := q8 nl (jz.lp 9) (fun env os nx => qA (cx K) N nl jz (qM c90 [1, 1, 1, 1, 0, 1, 0, 0]) env os (qP nx (qu 2 (zu (qA (cx K) N nl jz (qM c90 [1, 1, 1, 1, 1])) (jz.jn 13) (qV tab [] nl qh8))))) m9 [(0, x0), (1, x1), (6, x6), (7, x7), (10, x10)] os
noncomputable def qbC (K : zKT) (N nl : Nat) (m9 : Nat) (xs : List SV) (os : List SO) : Out := (fun env os nx => qA (cx K) N nl jz (qM c90 [1, 1, 1, 1, 0, 1, 0, 0]) env os (qP nx (qu 2 (zu (qA (cx K) N nl jz (qM c90 [1, 1, 1, 1, 1])) (jz.jn 13) (qV tab [] nl qh8))))) (jX [0, 1, 6, 7, 10] xs) os (qif K N nl m9)
noncomputable def J6 (K : zKT) (N nl : Nat) (m9 : Nat) (x0 x1 x6 x7 x10 : SV) (os : List SO) : Out := qA (cx K) N nl jz (qM c90 [1, 1, 1, 1, 0, 1, 0, 0, 1, 1]) [(0, x0), (1, x1), (6, x6), (7, x7), (10, x10)] os (qP (qif K N nl m9) (qu 2 (zu (qA (cx K) N nl jz (qM c90 [1, 1, 1, 1, 1])) (jz.jn 13) (qV tab [] nl qh8))))
noncomputable def qeh (K : zKT) (N nl : Nat) (m4 : Nat) (x0 x1 x6 x7 x8 x9 : SV) (os : List SO) : Out :=
 bd (qc (qw tab .gtr 3 x9 (.v (.int .i64 0))) os) fun v9 o9=>
 bd (gd v9 true (some (x8, o9)) o9) fun v10 o10=>
 bd (gd v9 true (qc (qw tab .lss 3 v10 (.v (.int .i64 6))) o10) o10) fun v11 o11=>
 bd (qc (qL v9 v11 (.v (.bool false))) o11) fun v12 o12=>
 qE v12 (bd (qc (qa tab 47 x7 2) o12) fun v13 o13 =>
 zQ (zv v13) <|
 bd (qc (qf tab o13 45 v13) o13) fun v14 o14=>
 zQ (zy ⟨tab, qm, K⟩ o14 (SV.fn 43 []) [x0, (.v (.int .i64 10))] [v13] false) <|
 bd (qn ⟨tab, qm, K⟩ o14 43 [x0, (.v (.int .i64 10))]) fun v15 o15=>
 bd (zL tab o15 68 [(0, (some x8)), (1, (some v15))]) fun v16 o16=>
 bd (qv tab o16 45 1 [(0, v16)]) fun v17 o17=>
 bd (zx tab o17 45 45 v14 v17) fun v18 o18=>
 bd (qc (qa tab 47 x7 2) o18) fun v19 o19=>
 bd (qp tab o19 45 v19 (some v18)) fun v20 o20=>
 bd (qc (qw tab .add 3 x8 (.v (.int .i64 1))) o20) fun v21 o21=>
 bd (qn ⟨tab, qm, K⟩ o21 43 [x0, (.v (.int .i64 3))]) fun v22 o22=>
 bd (qc (qw tab .add 3 v21 v22) o22) fun v23 o23=>
 bd (qc (qw tab .sub 3 x9 (.v (.int .i64 1))) o23) fun v24 o24=>
 qbz K N nl m4 x0 x1 x6 x7 v23 v24 o24)
 (qbB K N nl N x0 x1 x6 x7 (.v (.int .i64 1)) o12)
noncomputable def qei (K : zKT) (N nl : Nat) (m9 : Nat) (x0 x1 x6 x7 x10 : SV) (os : List SO) : Out :=
 bd (qc (qw tab .leq 3 x10 (.v (.int .i64 4))) os) fun v25 o25=>
 bd (gd v25 true (qc (qa tab 47 x7 3) o25) o25) fun v26 o26=>
 bd (gd v25 true (qc (qf tab o26 44 v26) o26) o26) fun v27 o27=>
 bd (gd v25 true (ze tab 44 o27 v27) o27) fun v28 o28=>
 bd (gd v25 true (qc (qw tab .lss 3 v28 (.v (.int .i64 2))) o28) o28) fun v29 o29=>
 bd (qc (qL v25 v29 (.v (.bool false))) o29) fun v30 o30=>
 qE v30 (bd (qc (qw tab .neq 3 x10 x1) o30) fun v31 o31 =>
 bd (gd v31 true (some (x0, o31)) o31) fun v32 o32=>
 bd (gd v31 true (qn ⟨tab, qm, K⟩ o32 43 [v32, (.v (.int .i64 6))]) o32) fun v33 o33=>
 bd (gd v31 true (qc (qw tab .eql 3 v33 (.v (.int .i64 0))) o33) o33) fun v34 o34=>
 bd (qc (qL v31 v34 (.v (.bool false))) o34) fun v35 o35=>
 qE v35 (bd (qc (qa tab 47 x7 3) o35) fun v36 o36 =>
 zQ (zv v36) <|
 bd (qc (qf tab o36 44 v36) o36) fun v37 o37=>
 zQ (zy ⟨tab, qm, K⟩ o37 (SV.fn 43 []) [x0, (.v (.int .i64 2))] [v36] false) <|
 bd (qn ⟨tab, qm, K⟩ o37 43 [x0, (.v (.int .i64 2))]) fun v38 o38=>
 bd (qc (qw tab .add 3 (.v (.int .i64 1)) v38) o38) fun v39 o39=>
 bd (zL tab o39 43 [(0, (some x10)), (1, (some v39))]) fun v40 o40=>
 bd (qv tab o40 44 1 [(0, v40)]) fun v41 o41=>
 bd (zx tab o41 44 44 v37 v41) fun v42 o42=>
 bd (qc (qa tab 47 x7 3) o42) fun v43 o43=>
 bd (qp tab o43 44 v43 (some v42)) fun v44 o44=>
 J6 K N nl m9 x0 x1 x6 x7 x10 o44)
 (J6 K N nl m9 x0 x1 x6 x7 x10 o35))
 (bd (qc (qf tab o30 47 x7) o30) fun v45 o45 =>
 bd (qp tab o45 47 x6 (some v45)) fun v46 o46=>
 zq tab nl o46 (qx (qf tab o46 47 x6) (some [])))
noncomputable def XF (K : zKT) (N nl : Nat) (m9 : Nat) (x0 x1 x6 x7 x10 : SV) (os : List SO) : Out :=
 bd (qc (qw tab .add 3 x10 (.v (.int .i64 1))) os) fun v47 o47=>
 qbB K N nl m9 x0 x1 x6 x7 v47 o47
noncomputable def X90 (K : zKT) (N nl : Nat) (x0 x1 x2 : SV) (os : List SO) : Out := qA (cx K) N nl jz c90 [(0, x0), (1, x1), (2, x2)] os (qV tab [] nl qh8)
noncomputable def B90 (K : zKT) (N nl : Nat) (x0 x1 x2 : SV) (os : List SO) : Out :=
 bd (qD tab os 47) fun v1 o1=>
 bd (qv tab o1 45 0 []) fun v2 o2=>
 bd (qv tab o2 44 0 []) fun v3 o3=>
 bd (zL tab o3 47 [(0, (some x1)), (1, (some x2)), (2, (some v2)), (3, (some v3))]) fun v4 o4=>
 bd (qD tab o4 47) fun v5 o5=>
 bd (qp tab o5 47 v5 (some v4)) fun v6 o6=>
 bd (qn ⟨tab, qm, K⟩ o6 43 [x0, (.v (.int .i64 4))]) fun v7 o7=>
 bd (qn ⟨tab, qm, K⟩ o7 43 [x0, (.v (.int .i64 3))]) fun v8 o8=>
 qbz K N nl N x0 x1 v1 v5 v7 v8 o8
noncomputable def bk91_2 (K : zKT) (N nl : Nat) (m2 : Nat) : Env → List SO → Out := fun env os => q8 nl (qdu.lp 2) (fun env os nx => qA (cx K) N nl qdu (qM c91 [1, 0, 1, 0, 0]) env os (qP nx (qu 0 (zu (qA (cx K) N nl qdu (qM c91 [1, 1])) (qdu.jn 6) (qV tab [] nl rs91))))) m2 (zB (qdu.lp 2).alive env) os
noncomputable def qbD (K : zKT) (N nl : Nat) (m2 : Nat) (x0 x1 x2 x7 : SV) (os : List SO) : Out := q8 nl (qdu.lp 2) (fun env os nx => qA (cx K) N nl qdu (qM c91 [1, 0, 1, 0, 0]) env os (qP nx (qu 0 (zu (qA (cx K) N nl qdu (qM c91 [1, 1])) (qdu.jn 6) (qV tab [] nl rs91))))) m2 [(0, x0), (1, x1), (2, x2), (7, x7)] os
noncomputable def qej (K : zKT) (N nl : Nat) (m2 : Nat) (x0 x1 x2 x7 : SV) (os : List SO) : Out :=
 bd (ze tab 23 os x0) fun v1 o1=>
 bd (qc (qw tab .lss 3 x7 v1) o1) fun v2 o2=>
 qE v2 (bd (qc (qj tab o2 23 x0 x7) o2) fun v3 o3 =>
 bd (qc (qa tab 47 v3 0) o3) fun v4 o4=>
 bd (qc (qf tab o4 3 v4) o4) fun v5 o5=>
 bd (qc (qw tab .eql 3 v5 x1) o5) fun v6 o6=>
 bd (gd v6 true (some (x0, o6)) o6) fun v7 o7=>
 bd (gd v6 true (some (x7, o7)) o7) fun v8 o8=>
 bd (gd v6 true (qc (qj tab o8 23 v7 v8) o8) o8) fun v9 o9=>
 bd (gd v6 true (qc (qa tab 47 v9 1) o9) o9) fun v10 o10=>
 bd (gd v6 true (qc (qf tab o10 3 v10) o10) o10) fun v11 o11=>
 bd (gd v6 true (some (x2, o11)) o11) fun v12 o12=>
 bd (gd v6 true (qc (qw tab .eql 3 v11 v12) o12) o12) fun v13 o13=>
 bd (qc (qL v6 v13 (.v (.bool false))) o13) fun v14 o14=>
 qE v14 (zq tab nl o14 (qx (some x7) (some [])))
 (bd (qc (qw tab .add 3 x7 (.v (.int .i64 1))) o14) fun v15 o15 =>
 qbD K N nl m2 x0 x1 x2 v15 o15))
 (zq tab nl o2 (qx (some (.v (.int .i64 (-1)))) (some [])))
noncomputable def X91 (K : zKT) (N nl : Nat) (x0 x1 x2 : SV) (os : List SO) : Out := qA (cx K) N nl qdu c91 [(0, x0), (1, x1), (2, x2)] os (qV tab [] nl rs91)
noncomputable def B91 (K : zKT) (N nl : Nat) (x0 x1 x2 : SV) (os : List SO) : Out :=
 qbD K N nl N x0 x1 x2 (.v (.int .i64 0)) os
noncomputable def qig (K : zKT) (N nl : Nat) (m3 : Nat) : Env → List SO → Out := fun env os => q8 nl (xN.lp 3) (fun env os nx => qA (cx K) N nl xN (qM c92 [1, 1, 0, 1, 0, 0]) env os (qP nx (qu 0 (zu (qA (cx K) N nl xN (qM c92 [1, 1, 1])) (xN.jn 7) (qV tab [] nl qgr))))) m3 (zB (xN.lp 3).alive env) os
noncomputable def qih (K : zKT) (N nl : Nat) (m9 : Nat) : Env → List SO → Out := fun env os => q8 nl (xN.lp 9) (fun env os nx => qA (cx K) N nl xN (qM c92 [1, 1, 1, 1, 0, 1, 0, 0]) env os (qP nx (qu 2 (zu (qA (cx K) N nl xN (qM c92 [1, 1, 1, 1, 1])) (xN.jn 13) (qV tab [] nl qgr))))) m9 (zB (xN.lp 9).alive env) os
noncomputable def qbE (K : zKT) (N nl : Nat) (m3 : Nat) (x0 x3 x5 x6 : SV) (os : List SO) : Out := q8 nl (xN.lp 3) (fun env os nx => qA (cx K) N nl xN (qM c92 [1, 1, 0, 1, 0, 0]) env os (qP nx (qu 0 (zu (qA (cx K) N nl xN (qM c92 [1, 1, 1])) (xN.jn 7) (qV tab [] nl qgr))))) m3 [(0, x0), (3, x3), (5, x5), (6, x6)] os
noncomputable def qbF (K : zKT) (N nl : Nat) (m3 : Nat) (xs : List SV) (os : List SO) : Out := (fun env os nx => qA (cx K) N nl xN (qM c92 [1, 1, 0, 1, 0, 0]) env os (qP nx (qu 0 (zu (qA (cx K) N nl xN (qM c92 [1, 1, 1])) (xN.jn 7) (qV tab [] nl qgr))))) (jX [0, 3, 5, 6] xs) os (qig K N nl m3)
noncomputable def qgF (K : zKT) (N nl : Nat) (m3 : Nat) (x0 x3 x5 x6 : SV) (os : List SO) : Out := qA (cx K) N nl xN (qM c92 [1, 1, 0, 1, 0, 0, 1, 1]) [(0, x0), (3, x3), (5, x5), (6, x6)] os (qP (qig K N nl m3) (qu 0 (zu (qA (cx K) N nl xN (qM c92 [1, 1, 1])) (xN.jn 7) (qV tab [] nl qgr))))
noncomputable def qbG (K : zKT) (N nl : Nat) (m9 : Nat) (x0 x3 x5 x7 : SV) (os : List SO) : Out := q8 nl (xN.lp 9) (fun env os nx => qA (cx K) N nl xN (qM c92 [1, 1, 1, 1, 0, 1, 0, 0]) env os (qP nx (qu 2 (zu (qA (cx K) N nl xN (qM c92 [1, 1, 1, 1, 1])) (xN.jn 13) (qV tab [] nl qgr))))) m9 [(0, x0), (3, x3), (5, x5), (7, x7)] os
noncomputable def qbH (K : zKT) (N nl : Nat) (m9 : Nat) (xs : List SV) (os : List SO) : Out := (fun env os nx => qA (cx K) N nl xN (qM c92 [1, 1, 1, 1, 0, 1, 0, 0]) env os (qP nx (qu 2 (zu (qA (cx K) N nl xN (qM c92 [1, 1, 1, 1, 1])) (xN.jn 13) (qV tab [] nl qgr))))) (jX [0, 3, 5, 7] xs) os (qih K N nl m9)
noncomputable def J7 (K : zKT) (N nl : Nat) (m9 : Nat) (x0 x3 x5 x7 : SV) (os : List SO) : Out := qA (cx K) N nl xN (qM c92 [1, 1, 1, 1, 0, 1, 0, 0, 1, 1]) [(0, x0), (3, x3), (5, x5), (7, x7)] os (qP (qih K N nl m9) (qu 2 (zu (qA (cx K) N nl xN (qM c92 [1, 1, 1, 1, 1])) (xN.jn 13) (qV tab [] nl qgr))))
noncomputable def qek (K : zKT) (N nl : Nat) (m3 : Nat) (x0 x3 x5 x6 : SV) (os : List SO) : Out :=
 bd (ze tab 23 os x0) fun v4 o4=>
 bd (qc (qw tab .lss 3 x6 v4) o4) fun v5 o5=>
 qE v5 (bd (qc (qj tab o5 23 x0 x6) o5) fun v6 o6 =>
 bd (qc (qa tab 47 v6 0) o6) fun v7 o7=>
 bd (qc (qf tab o7 3 v7) o7) fun v8 o8=>
 bd (qc (qj tab o8 23 x0 x6) o8) fun v9 o9=>
 bd (qc (qa tab 47 v9 1) o9) fun v10 o10=>
 bd (qc (qf tab o10 3 v10) o10) fun v11 o11=>
 bd (qc (qa tab 47 x3 0) o11) fun v12 o12=>
 bd (qc (qf tab o12 3 v12) o12) fun v13 o13=>
 bd (qc (qa tab 47 x3 1) o13) fun v14 o14=>
 bd (qc (qf tab o14 3 v14) o14) fun v15 o15=>
 bd (qn ⟨tab, qm, K⟩ o15 107 [v8, v11, v13, v15]) fun v16 o16=>
 qE v16 (bd (qc (qj tab o16 23 x0 x6) o16) fun v17 o17 =>
 bd (qc (qf tab o17 47 v17) o17) fun v18 o18=>
 bd (qv tab o18 23 1 [(0, v18)]) fun v19 o19=>
 bd (zx tab o19 23 23 x5 v19) fun v20 o20=>
 qgF K N nl m3 x0 x3 v20 x6 o20)
 (qgF K N nl m3 x0 x3 x5 x6 o16))
 (bd (qc (qf tab o5 47 x3) o5) fun v21 o21 =>
 bd (qv tab o21 23 1 [(0, v21)]) fun v22 o22=>
 bd (zx tab o22 23 23 x5 v22) fun v23 o23=>
 qbG K N nl N x0 x3 v23 (.v (.int .i64 0)) o23)
noncomputable def qel (K : zKT) (N nl : Nat) (m3 : Nat) (x0 x3 x5 x6 : SV) (os : List SO) : Out :=
 bd (qc (qw tab .add 3 x6 (.v (.int .i64 1))) os) fun v24 o24=>
 qbE K N nl m3 x0 x3 x5 v24 o24
noncomputable def qem (K : zKT) (N nl : Nat) (m9 : Nat) (x0 x3 x5 x7 : SV) (os : List SO) : Out :=
 bd (ze tab 23 os x0) fun v25 o25=>
 bd (qc (qw tab .lss 3 x7 v25) o25) fun v26 o26=>
 qE v26 (bd (qc (qa tab 47 x3 0) o26) fun v27 o27 =>
 bd (qc (qf tab o27 3 v27) o27) fun v28 o28=>
 bd (qc (qa tab 47 x3 1) o28) fun v29 o29=>
 bd (qc (qf tab o29 3 v29) o29) fun v30 o30=>
 bd (qc (qj tab o30 23 x0 x7) o30) fun v31 o31=>
 bd (qc (qa tab 47 v31 0) o31) fun v32 o32=>
 bd (qc (qf tab o32 3 v32) o32) fun v33 o33=>
 bd (qc (qj tab o33 23 x0 x7) o33) fun v34 o34=>
 bd (qc (qa tab 47 v34 1) o34) fun v35 o35=>
 bd (qc (qf tab o35 3 v35) o35) fun v36 o36=>
 bd (qn ⟨tab, qm, K⟩ o36 107 [v28, v30, v33, v36]) fun v37 o37=>
 qE v37 (bd (qc (qj tab o37 23 x0 x7) o37) fun v38 o38 =>
 bd (qc (qf tab o38 47 v38) o38) fun v39 o39=>
 bd (qv tab o39 23 1 [(0, v39)]) fun v40 o40=>
 bd (zx tab o40 23 23 x5 v40) fun v41 o41=>
 J7 K N nl m9 x0 x3 v41 x7 o41)
 (J7 K N nl m9 x0 x3 x5 x7 o37))
 (zq tab nl o26 (qx (some x5) (some [])))
noncomputable def XG (K : zKT) (N nl : Nat) (m9 : Nat) (x0 x3 x5 x7 : SV) (os : List SO) : Out :=
 bd (qc (qw tab .add 3 x7 (.v (.int .i64 1))) os) fun v42 o42=>
 qbG K N nl m9 x0 x3 x5 v42 o42
noncomputable def X92 (K : zKT) (N nl : Nat) (x0 x1 : SV) (os : List SO) : Out := qA (cx K) N nl xN c92 [(0, x0), (1, x1)] os (qV tab [] nl qgr)
noncomputable def B92 (K : zKT) (N nl : Nat) (x0 x1 : SV) (os : List SO) : Out :=
 bd (wt tab os 47 (some x1)) fun v1 o1=>
 bd (evN tab 23 o1 none) fun v2 o2=>
 bd (qv tab o2 23 0 []) fun v3 o3=>
 qbE K N nl N x0 v1 v3 (.v (.int .i64 0)) o3
noncomputable def X93 (K : zKT) (N nl : Nat) (x0 : SV) (os : List SO) : Out := qA (cx K) N nl fi93 c93 [(0, x0)] os (qV tab [] nl rs93)
noncomputable def B93 (K : zKT) (N nl : Nat) (x0 : SV) (os : List SO) : Out :=
 bd (wt tab os 47 (some x0)) fun v1 o1=>
 bd (qD tab o1 47) fun v2 o2=>
 bd (qc (qa tab 47 v1 2) o2) fun v3 o3=>
 bd (qc (qf tab o3 45 v3) o3) fun v4 o4=>
 zQ (zy ⟨tab, qm, K⟩ o4 (SV.fn 108 []) [v4] [] true) <|
 bd (qn ⟨tab, qm, K⟩ o4 108 [v4]) fun v5 o5=>
 bd (qc (qa tab 47 v1 3) o5) fun v6 o6=>
 zQ (zv v6) <|
 bd (qc (qf tab o6 44 v6) o6) fun v7 o7=>
 bd (qn ⟨tab, qm, K⟩ o7 109 [v7]) fun v8 o8=>
 bd (qc (qa tab 47 v1 2) o8) fun v9 o9=>
 bd (qp tab o9 45 v9 (some v5)) fun v10 o10=>
 bd (qc (qa tab 47 v1 3) o10) fun v11 o11=>
 bd (qp tab o11 44 v11 (some v8)) fun v12 o12=>
 bd (qc (qf tab o12 47 v1) o12) fun v13 o13=>
 bd (qp tab o13 47 v2 (some v13)) fun v14 o14=>
 zq tab nl o14 (qx (qf tab o14 47 v2) (some []))
noncomputable def Zq (K : zKT) (N nl : Nat) (x2 x3 : SV) (os : List SO) : Out := qA (cx K) N nl fi94 (qM c94 [1, 1, 1]) [(2, x2), (3, x3)] os (qV tab [] nl rs94)
noncomputable def XH (K : zKT) (N nl : Nat) (x2 x3 : SV) (os : List SO) : Out :=
 bd (qc (qf tab os 47 x3) os) fun v44 o44=>
 bd (qp tab o44 47 x2 (some v44)) fun v45 o45=>
 zq tab nl o45 (qx (qf tab o45 47 x2) (some []))
noncomputable def X94 (K : zKT) (N nl : Nat) (x0 : SV) (os : List SO) : Out := qA (cx K) N nl fi94 c94 [(0, x0)] os (qV tab [] nl rs94)
noncomputable def B94 (K : zKT) (N nl : Nat) (x0 : SV) (os : List SO) : Out :=
 bd (qD tab os 47) fun v1 o1=>
 bd (qn ⟨tab, qm, K⟩ o1 43 [x0, (.v (.int .i64 4))]) fun v2 o2=>
 bd (qc (qw tab .add 3 (.v (.int .i64 1)) v2) o2) fun v3 o3=>
 bd (qn ⟨tab, qm, K⟩ o3 43 [x0, (.v (.int .i64 3))]) fun v4 o4=>
 bd (qc (qw tab .add 3 (.v (.int .i64 1)) v4) o4) fun v5 o5=>
 bd (qn ⟨tab, qm, K⟩ o5 90 [x0, v3, v5]) fun v6 o6=>
 bd (qD tab o6 47) fun v7 o7=>
 bd (qp tab o7 47 v7 (some v6)) fun v8 o8=>
 bd (qn ⟨tab, qm, K⟩ o8 43 [x0, (.v (.int .i64 20))]) fun v9 o9=>
 bd (qc (qw tab .eql 3 v9 (.v (.int .i64 0))) o9) fun v10 o10=>
 qE v10 (bd (qv tab o10 24 2 [(0, (.v (.int .i64 0))), (1, (.v (.int .i64 5)))]) fun v11 o11 =>
 bd (qn ⟨tab, qm, K⟩ o11 43 [x0, (.v (.int .i64 2))]) fun v12 o12=>
 bd (qc (qj tab o12 24 v11 v12) o12) fun v13 o13=>
 bd (qc (qf tab o13 3 v13) o13) fun v14 o14=>
 bd (qc (qa tab 47 v7 0) o14) fun v15 o15=>
 bd (qp tab o15 3 v15 (some v14)) fun v16 o16=>
 Zq K N nl v1 v7 o16)
 (bd (qc (qw tab .eql 3 v9 (.v (.int .i64 1))) o10) fun v17 o17 =>
 qE v17 (bd (qv tab o17 24 2 [(0, (.v (.int .i64 0))), (1, (.v (.int .i64 6)))]) fun v18 o18 =>
 bd (qn ⟨tab, qm, K⟩ o18 43 [x0, (.v (.int .i64 2))]) fun v19 o19=>
 bd (qc (qj tab o19 24 v18 v19) o19) fun v20 o20=>
 bd (qc (qf tab o20 3 v20) o20) fun v21 o21=>
 bd (qc (qa tab 47 v7 1) o21) fun v22 o22=>
 bd (qp tab o22 3 v22 (some v21)) fun v23 o23=>
 Zq K N nl v1 v7 o23)
 (bd (qc (qw tab .eql 3 v9 (.v (.int .i64 2))) o17) fun v24 o24 =>
 qE v24 (bd (qc (qa tab 47 v7 2) o24) fun v25 o25 =>
 zQ (zv v25) <|
 bd (qc (qf tab o25 45 v25) o25) fun v26 o26=>
 zQ (zy ⟨tab, qm, K⟩ o26 (SV.fn 43 []) [x0, (.v (.int .i64 7))] [v25] false) <|
 bd (qn ⟨tab, qm, K⟩ o26 43 [x0, (.v (.int .i64 7))]) fun v27 o27=>
 zQ (zy ⟨tab, qm, K⟩ o27 (SV.fn 43 []) [x0, (.v (.int .i64 12))] [v25] false) <|
 bd (qn ⟨tab, qm, K⟩ o27 43 [x0, (.v (.int .i64 12))]) fun v28 o28=>
 bd (zL tab o28 68 [(0, (some v27)), (1, (some v28))]) fun v29 o29=>
 bd (qv tab o29 45 1 [(0, v29)]) fun v30 o30=>
 bd (zx tab o30 45 45 v26 v30) fun v31 o31=>
 bd (qc (qa tab 47 v7 2) o31) fun v32 o32=>
 bd (qp tab o32 45 v32 (some v31)) fun v33 o33=>
 Zq K N nl v1 v7 o33)
 (bd (qc (qw tab .eql 3 v9 (.v (.int .i64 3))) o24) fun v34 o34 =>
 qE v34 (bd (qc (qa tab 47 v7 3) o34) fun v35 o35 =>
 zQ (zv v35) <|
 bd (qc (qf tab o35 44 v35) o35) fun v36 o36=>
 zQ (zy ⟨tab, qm, K⟩ o36 (SV.fn 43 []) [x0, (.v (.int .i64 6))] [v35] false) <|
 bd (qn ⟨tab, qm, K⟩ o36 43 [x0, (.v (.int .i64 6))]) fun v37 o37=>
 zQ (zy ⟨tab, qm, K⟩ o37 (SV.fn 43 []) [x0, (.v (.int .i64 7))] [v35] false) <|
 bd (qn ⟨tab, qm, K⟩ o37 43 [x0, (.v (.int .i64 7))]) fun v38 o38=>
 bd (zL tab o38 43 [(0, (some v37)), (1, (some v38))]) fun v39 o39=>
 bd (qv tab o39 44 1 [(0, v39)]) fun v40 o40=>
 bd (zx tab o40 44 44 v36 v40) fun v41 o41=>
 bd (qc (qa tab 47 v7 3) o41) fun v42 o42=>
 bd (qp tab o42 44 v42 (some v41)) fun v43 o43=>
 Zq K N nl v1 v7 o43)
 (Zq K N nl v1 v7 o34))))
noncomputable def bk97_4 (K : zKT) (N nl : Nat) (m4 : Nat) : Env → List SO → Out := fun env os => q8 nl (Qs.lp 4) (fun env os nx => qA (cx K) N nl Qs (qM c97 [1, 1, 0, 1, 0, 0]) env os (qP nx (qu 0 (zu (qA (cx K) N nl Qs (qM c97 [1, 1, 1])) (Qs.jn 9) (qV tab [] nl qjc))))) m4 (zB (Qs.lp 4).alive env) os
noncomputable def qjm (K : zKT) (N nl : Nat) (m10 : Nat) : Env → List SO → Out := fun env os => q8 nl (Qs.lp 10) (fun env os nx => qA (cx K) N nl Qs (qM c97 [1, 1, 1, 0, 1, 0, 0]) env os (qP nx (qu 2 (zu (qA (cx K) N nl Qs (qM c97 [1, 1, 1, 1])) (Qs.jn 15) (qV tab [] nl qjc))))) m10 (zB (Qs.lp 10).alive env) os
noncomputable def qbI (K : zKT) (N nl : Nat) (m4 : Nat) (x1 x30 x31 x32 : SV) (os : List SO) : Out := q8 nl (Qs.lp 4) (fun env os nx => qA (cx K) N nl Qs (qM c97 [1, 1, 0, 1, 0, 0]) env os (qP nx (qu 0 (zu (qA (cx K) N nl Qs (qM c97 [1, 1, 1])) (Qs.jn 9) (qV tab [] nl qjc))))) m4 [(1, x1), (30, x30), (31, x31), (32, x32)] os
noncomputable def qbJ (K : zKT) (N nl : Nat) (m4 : Nat) (xs : List SV) (os : List SO) : Out := (fun env os nx => qA (cx K) N nl Qs (qM c97 [1, 1, 0, 1, 0, 0]) env os (qP nx (qu 0 (zu (qA (cx K) N nl Qs (qM c97 [1, 1, 1])) (Qs.jn 9) (qV tab [] nl qjc))))) (jX [1, 30, 31, 32] xs) os (bk97_4 K N nl m4)
noncomputable def Kq (K : zKT) (N nl : Nat) (m10 : Nat) (x1 x65 x66 x67 : SV) (os : List SO) : Out := q8 nl (Qs.lp 10) (fun env os nx => qA (cx K) N nl Qs (qM c97 [1, 1, 1, 0, 1, 0, 0]) env os (qP nx (qu 2 (zu (qA (cx K) N nl Qs (qM c97 [1, 1, 1, 1])) (Qs.jn 15) (qV tab [] nl qjc))))) m10 [(1, x1), (65, x65), (66, x66), (67, x67)] os
noncomputable def Kr (K : zKT) (N nl : Nat) (m10 : Nat) (xs : List SV) (os : List SO) : Out := (fun env os nx => qA (cx K) N nl Qs (qM c97 [1, 1, 1, 0, 1, 0, 0]) env os (qP nx (qu 2 (zu (qA (cx K) N nl Qs (qM c97 [1, 1, 1, 1])) (Qs.jn 15) (qV tab [] nl qjc))))) (jX [1, 65, 66, 67] xs) os (qjm K N nl m10)
noncomputable def qen (K : zKT) (N nl : Nat) (m4 : Nat) (x1 x30 x31 x32 : SV) (os : List SO) : Out :=
 bd (qc (qw tab .lss 3 x32 x31) os) fun v24 o24=>
 qE v24 (bd (qc (qj tab o24 45 x30 x32) o24) fun v25 o25 =>
 bd (qc (qf tab o25 68 v25) o25) fun v26 o26=>
 bd (qD tab o26 68) fun v27 o27=>
 bd (qp tab o27 68 v27 (some v26)) fun v28 o28=>
 bd (qc (qa tab 68 v27 0) o28) fun v29 o29=>
 bd (qc (qf tab o29 3 v29) o29) fun v30 o30=>
 bd (qn ⟨tab, qm, K⟩ o30 51 [v30, (.v (.int .i64 0)), (.v (.int .i64 5))]) fun v31 o31=>
 bd (qc (unS .not v31) o31) fun v32 o32=>
 bd (gd v32 false (qc (qa tab 68 v27 1) o32) o32) fun v33 o33=>
 bd (gd v32 false (qc (qf tab o33 3 v33) o33) o33) fun v34 o34=>
 bd (gd v32 false (qn ⟨tab, qm, K⟩ o34 51 [v34, (.v (.int .i64 0)), (.v (.int .i64 9))]) o34) fun v35 o35=>
 bd (gd v32 false (qc (unS .not v35) o35) o35) fun v36 o36=>
 bd (qc (qL v32 (.v (.bool true)) v36) o36) fun v37 o37=>
 bd (gd v37 false (some (x32, o37)) o37) fun v38 o38=>
 bd (gd v37 false (qc (qw tab .gtr 3 v38 (.v (.int .i64 0))) o38) o38) fun v39 o39=>
 bd (gd v37 false (some (v39, o39)) o39) fun v40 o40=>
 bd (gd v40 true (qc (qa tab 68 v27 0) o40) o40) fun v41 o41=>
 bd (gd v40 true (qc (qf tab o41 3 v41) o41) o41) fun v42 o42=>
 bd (gd v40 true (qc (qa tab 47 x1 2) o42) o42) fun v43 o43=>
 bd (gd v40 true (qc (qf tab o43 45 v43) o43) o43) fun v44 o44=>
 bd (gd v40 true (some (x32, o44)) o44) fun v45 o45=>
 bd (gd v40 true (qc (qw tab .sub 3 v45 (.v (.int .i64 1))) o45) o45) fun v46 o46=>
 bd (gd v40 true (qc (qj tab o46 45 v44 v46) o46) o46) fun v47 o47=>
 bd (gd v40 true (qc (qa tab 68 v47 0) o47) o47) fun v48 o48=>
 bd (gd v40 true (qc (qf tab o48 3 v48) o48) o48) fun v49 o49=>
 bd (gd v40 true (qc (qw tab .leq 3 v42 v49) o49) o49) fun v50 o50=>
 bd (gd v37 false (qc (qL v40 v50 (.v (.bool false))) o50) o50) fun v51 o51=>
 bd (qc (qL v37 (.v (.bool true)) v51) o51) fun v52 o52=>
 qE v52 (zq tab nl o52 (qx (some (.v (.bool false))) (some [])))
 (bd (qc (qw tab .add 3 x32 (.v (.int .i64 1))) o52) fun v53 o53 =>
 qbI K N nl m4 x1 x30 x31 v53 o53))
 (bd (qc (qa tab 47 x1 3) o24) fun v54 o54 =>
 bd (qc (qf tab o54 44 v54) o54) fun v55 o55=>
 bd (ze tab 44 o55 v55) fun v56 o56=>
 Kq K N nl N x1 v55 v56 (.v (.int .i64 0)) o56)
noncomputable def XI (K : zKT) (N nl : Nat) (m10 : Nat) (x1 x65 x66 x67 : SV) (os : List SO) : Out :=
 bd (qc (qw tab .lss 3 x67 x66) os) fun v57 o57=>
 qE v57 (bd (qc (qj tab o57 44 x65 x67) o57) fun v58 o58 =>
 bd (qc (qf tab o58 43 v58) o58) fun v59 o59=>
 bd (qD tab o59 43) fun v60 o60=>
 bd (qp tab o60 43 v60 (some v59)) fun v61 o61=>
 bd (qc (qa tab 43 v60 0) o61) fun v62 o62=>
 bd (qc (qf tab o62 3 v62) o62) fun v63 o63=>
 bd (qn ⟨tab, qm, K⟩ o63 110 [v63]) fun v64 o64=>
 bd (qc (unS .not v64) o64) fun v65 o65=>
 bd (gd v65 false (qc (qa tab 43 v60 0) o65) o65) fun v66 o66=>
 bd (gd v65 false (qc (qf tab o66 3 v66) o66) o66) fun v67 o67=>
 bd (gd v65 false (qc (qa tab 47 x1 0) o67) o67) fun v68 o68=>
 bd (gd v65 false (qc (qf tab o68 3 v68) o68) o68) fun v69 o69=>
 bd (gd v65 false (qc (qw tab .eql 3 v67 v69) o69) o69) fun v70 o70=>
 bd (qc (qL v65 (.v (.bool true)) v70) o70) fun v71 o71=>
 bd (gd v71 false (qc (qa tab 43 v60 1) o71) o71) fun v72 o72=>
 bd (gd v71 false (qc (qf tab o72 3 v72) o72) o72) fun v73 o73=>
 bd (gd v71 false (qn ⟨tab, qm, K⟩ o73 111 [v73]) o73) fun v74 o74=>
 bd (gd v71 false (qc (unS .not v74) o74) o74) fun v75 o75=>
 bd (qc (qL v71 (.v (.bool true)) v75) o75) fun v76 o76=>
 bd (gd v76 false (some (x67, o76)) o76) fun v77 o77=>
 bd (gd v76 false (qc (qw tab .gtr 3 v77 (.v (.int .i64 0))) o77) o77) fun v78 o78=>
 bd (gd v76 false (some (v78, o78)) o78) fun v79 o79=>
 bd (gd v79 true (qc (qa tab 43 v60 0) o79) o79) fun v80 o80=>
 bd (gd v79 true (qc (qf tab o80 3 v80) o80) o80) fun v81 o81=>
 bd (gd v79 true (qc (qa tab 47 x1 3) o81) o81) fun v82 o82=>
 bd (gd v79 true (qc (qf tab o82 44 v82) o82) o82) fun v83 o83=>
 bd (gd v79 true (some (x67, o83)) o83) fun v84 o84=>
 bd (gd v79 true (qc (qw tab .sub 3 v84 (.v (.int .i64 1))) o84) o84) fun v85 o85=>
 bd (gd v79 true (qc (qj tab o85 44 v83 v85) o85) o85) fun v86 o86=>
 bd (gd v79 true (qc (qa tab 43 v86 0) o86) o86) fun v87 o87=>
 bd (gd v79 true (qc (qf tab o87 3 v87) o87) o87) fun v88 o88=>
 bd (gd v79 true (qc (qw tab .leq 3 v81 v88) o88) o88) fun v89 o89=>
 bd (gd v76 false (qc (qL v79 v89 (.v (.bool false))) o89) o89) fun v90 o90=>
 bd (qc (qL v76 (.v (.bool true)) v90) o90) fun v91 o91=>
 qE v91 (zq tab nl o91 (qx (some (.v (.bool false))) (some [])))
 (bd (qc (qw tab .add 3 x67 (.v (.int .i64 1))) o91) fun v92 o92 =>
 Kq K N nl m10 x1 x65 x66 v92 o92))
 (zq tab nl o57 (qx (some (.v (.bool true))) (some [])))
noncomputable def X97 (K : zKT) (N nl : Nat) (x0 : SV) (os : List SO) : Out := qA (cx K) N nl Qs c97 [(0, x0)] os (qV tab [] nl qjc)
noncomputable def B97 (K : zKT) (N nl : Nat) (x0 : SV) (os : List SO) : Out :=
 bd (wt tab os 47 (some x0)) fun v1 o1=>
 bd (qc (qa tab 47 v1 0) o1) fun v2 o2=>
 bd (qc (qf tab o2 3 v2) o2) fun v3 o3=>
 bd (qn ⟨tab, qm, K⟩ o3 110 [v3]) fun v4 o4=>
 bd (qc (unS .not v4) o4) fun v5 o5=>
 bd (gd v5 false (qc (qa tab 47 v1 1) o5) o5) fun v6 o6=>
 bd (gd v5 false (qc (qf tab o6 3 v6) o6) o6) fun v7 o7=>
 bd (gd v5 false (qn ⟨tab, qm, K⟩ o7 111 [v7]) o7) fun v8 o8=>
 bd (gd v5 false (qc (unS .not v8) o8) o8) fun v9 o9=>
 bd (qc (qL v5 (.v (.bool true)) v9) o9) fun v10 o10=>
 bd (gd v10 false (qc (qa tab 47 v1 2) o10) o10) fun v11 o11=>
 bd (gd v10 false (qc (qf tab o11 45 v11) o11) o11) fun v12 o12=>
 bd (gd v10 false (ze tab 45 o12 v12) o12) fun v13 o13=>
 bd (gd v10 false (qc (qw tab .gtr 3 v13 (.v (.int .i64 2))) o13) o13) fun v14 o14=>
 bd (qc (qL v10 (.v (.bool true)) v14) o14) fun v15 o15=>
 bd (gd v15 false (qc (qa tab 47 v1 3) o15) o15) fun v16 o16=>
 bd (gd v15 false (qc (qf tab o16 44 v16) o16) o16) fun v17 o17=>
 bd (gd v15 false (ze tab 44 o17 v17) o17) fun v18 o18=>
 bd (gd v15 false (qc (qw tab .gtr 3 v18 (.v (.int .i64 2))) o18) o18) fun v19 o19=>
 bd (qc (qL v15 (.v (.bool true)) v19) o19) fun v20 o20=>
 qE v20 (zq tab nl o20 (qx (some (.v (.bool false))) (some [])))
 (bd (qc (qa tab 47 v1 2) o20) fun v21 o21 =>
 bd (qc (qf tab o21 45 v21) o21) fun v22 o22=>
 bd (ze tab 45 o22 v22) fun v23 o23=>
 qbI K N nl N v1 v22 v23 (.v (.int .i64 0)) o23)
noncomputable def X98 (K : zKT) (N nl : Nat) (x0 x1 : SV) (os : List SO) : Out := qA (cx K) N nl fi98 c98 [(0, x0), (1, x1)] os (qV tab [] nl rs98)
noncomputable def B98 (K : zKT) (N nl : Nat) (x0 x1 : SV) (os : List SO) : Out :=
 bd (wt tab os 47 (some x0)) fun v1 o1=>
 bd (wt tab o1 47 (some x1)) fun v2 o2=>
 bd (qc (qa tab 47 v1 0) o2) fun v3 o3=>
 bd (qc (qf tab o3 3 v3) o3) fun v4 o4=>
 bd (qc (qa tab 47 v2 0) o4) fun v5 o5=>
 bd (qc (qf tab o5 3 v5) o5) fun v6 o6=>
 zQ (zy ⟨tab, qm, K⟩ o6 (SV.fn 113 []) [v4, v6] [] true) <|
 bd (qn ⟨tab, qm, K⟩ o6 113 [v4, v6]) fun v7 o7=>
 bd (qc (qa tab 47 v1 1) o7) fun v8 o8=>
 zQ (zv v8) <|
 bd (qc (qf tab o8 3 v8) o8) fun v9 o9=>
 bd (qc (qa tab 47 v2 1) o9) fun v10 o10=>
 zQ (zv v10) <|
 bd (qc (qf tab o10 3 v10) o10) fun v11 o11=>
 bd (qn ⟨tab, qm, K⟩ o11 113 [v9, v11]) fun v12 o12=>
 bd (qv tab o12 24 2 [(0, v7), (1, v12)]) fun v13 o13=>
 bd (qn ⟨tab, qm, K⟩ o13 112 [v13]) fun v14 o14=>
 zq tab nl o14 (qx (some v14) (some []))
noncomputable def bk99_2 (K : zKT) (N nl : Nat) (m2 : Nat) : Env → List SO → Out := fun env os => q8 nl (qdv.lp 2) (fun env os nx => qA (cx K) N nl qdv (qM c99 [1, 0, 1, 0, 0]) env os (qP nx (qu 0 (zu (qA (cx K) N nl qdv (qM c99 [1, 1])) (qdv.jn 7) (qV tab [] nl rs99))))) m2 (zB (qdv.lp 2).alive env) os
noncomputable def qbK (K : zKT) (N nl : Nat) (m2 : Nat) (x0 x1 x7 x8 : SV) (os : List SO) : Out := q8 nl (qdv.lp 2) (fun env os nx => qA (cx K) N nl qdv (qM c99 [1, 0, 1, 0, 0]) env os (qP nx (qu 0 (zu (qA (cx K) N nl qdv (qM c99 [1, 1])) (qdv.jn 7) (qV tab [] nl rs99))))) m2 [(0, x0), (1, x1), (7, x7), (8, x8)] os
noncomputable def qeo (K : zKT) (N nl : Nat) (m2 : Nat) (x0 x1 x7 x8 : SV) (os : List SO) : Out :=
 bd (qc (qw tab .lss 3 x8 x7) os) fun v2 o2=>
 qE v2 (bd (qc (qj tab o2 44 x0 x8) o2) fun v3 o3 =>
 bd (qc (qf tab o3 43 v3) o3) fun v4 o4=>
 bd (wJ ⟨tab, qm, K⟩ o4 x1 [v4]) fun v5 o5=>
 qE v5 (zq tab nl o5 (qx (some x8) (some [])))
 (bd (qc (qw tab .add 3 x8 (.v (.int .i64 1))) o5) fun v6 o6 =>
 qbK K N nl m2 x0 x1 x7 v6 o6))
 (zq tab nl o2 (qx (some (.v (.int .i64 (-1)))) (some [])))
noncomputable def X99 (K : zKT) (N nl : Nat) (x0 x1 : SV) (os : List SO) : Out := qA (cx K) N nl qdv c99 [(0, x0), (1, x1)] os (qV tab [] nl rs99)
noncomputable def B99 (K : zKT) (N nl : Nat) (x0 x1 : SV) (os : List SO) : Out :=
 bd (ze tab 44 os x0) fun v1 o1=>
 qbK K N nl N x0 x1 v1 (.v (.int .i64 0)) o1
noncomputable def X100 (K : zKT) (N nl : Nat) (x0 x1 : SV) (os : List SO) : Out := qA (cx K) N nl fi100 c100 [(0, x0), (1, x1)] os (qV tab [] nl rs100)
noncomputable def B100 (K : zKT) (N nl : Nat) (x0 x1 : SV) (os : List SO) : Out :=
 bd (qn ⟨tab, qm, K⟩ os 114 [x0, x1]) fun v1 o1=>
 bd (qc (qw tab .geq 3 v1 (.v (.int .i64 0))) o1) fun v2 o2=>
 zq tab nl o2 (qx (some v2) (some []))
noncomputable def X101 (K : zKT) (N nl : Nat) (x0 x1 : SV) (os : List SO) : Out := qA (cx K) N nl fi101 c101 [(0, x0), (1, x1)] os (qV tab [] nl rs101)
noncomputable def B101 (K : zKT) (N nl : Nat) (x0 x1 : SV) (os : List SO) : Out :=
 bd (wt tab os 47 (some x0)) fun v1 o1=>
 bd (qc (qa tab 47 v1 0) o1) fun v2 o2=>
 bd (qc (qf tab o2 3 v2) o2) fun v3 o3=>
 bd (qc (qa tab 43 x1 0) o3) fun v4 o4=>
 bd (qc (qf tab o4 3 v4) o4) fun v5 o5=>
 bd (qc (qw tab .eql 3 v3 v5) o5) fun v6 o6=>
 bd (gd v6 true (qc (qa tab 47 v1 1) o6) o6) fun v7 o7=>
 bd (gd v6 true (qc (qf tab o7 3 v7) o7) o7) fun v8 o8=>
 bd (gd v6 true (qc (qa tab 43 x1 1) o8) o8) fun v9 o9=>
 bd (gd v6 true (qc (qf tab o9 3 v9) o9) o9) fun v10 o10=>
 bd (gd v6 true (qc (qw tab .geq 3 v8 v10) o10) o10) fun v11 o11=>
 bd (qc (qL v6 v11 (.v (.bool false))) o11) fun v12 o12=>
 zq tab nl o12 (qx (some v12) (some []))
noncomputable def X102 (K : zKT) (N nl : Nat) (x0 : SV) (os : List SO) : Out := qA (cx K) N nl fi102 c102 [(0, x0)] os (qV tab [] nl rs102)
noncomputable def B102 (K : zKT) (N nl : Nat) (x0 : SV) (os : List SO) : Out :=
 bd (wt tab os 47 (some x0)) fun v1 o1=>
 bd (qD tab o1 47) fun v2 o2=>
 bd (qv tab o2 45 0 []) fun v3 o3=>
 bd (qc (qa tab 47 v1 2) o3) fun v4 o4=>
 bd (qc (qf tab o4 45 v4) o4) fun v5 o5=>
 bd (zx tab o5 45 45 v3 v5) fun v6 o6=>
 bd (qc (qa tab 47 v1 2) o6) fun v7 o7=>
 bd (qp tab o7 45 v7 (some v6)) fun v8 o8=>
 bd (qv tab o8 44 0 []) fun v9 o9=>
 bd (qc (qa tab 47 v1 3) o9) fun v10 o10=>
 bd (qc (qf tab o10 44 v10) o10) fun v11 o11=>
 bd (zx tab o11 44 44 v9 v11) fun v12 o12=>
 bd (qc (qa tab 47 v1 3) o12) fun v13 o13=>
 bd (qp tab o13 44 v13 (some v12)) fun v14 o14=>
 bd (qc (qf tab o14 47 v1) o14) fun v15 o15=>
 bd (qp tab o15 47 v2 (some v15)) fun v16 o16=>
 zq tab nl o16 (qx (qf tab o16 47 v2) (some []))
noncomputable def bk103_2 (K : zKT) (N nl : Nat) (m2 : Nat) : Env → List SO → Out := fun env os => q8 nl (Zl.lp 2) (fun env os nx => qA (cx K) N nl Zl (qM c103 [1, 0, 1, 0, 0]) env os (qP nx (qu 0 (zu (qA (cx K) N nl Zl (qM c103 [1, 1])) (Zl.jn 6) (qV tab [] nl qjd))))) m2 (zB (Zl.lp 2).alive env) os
noncomputable def Ks (K : zKT) (N nl : Nat) (m2 : Nat) (x0 x3 : SV) (os : List SO) : Out := q8 nl (Zl.lp 2) (fun env os nx => qA (cx K) N nl Zl (qM c103 [1, 0, 1, 0, 0]) env os (qP nx (qu 0 (zu (qA (cx K) N nl Zl (qM c103 [1, 1])) (Zl.jn 6) (qV tab [] nl qjd))))) m2 [(0, x0), (3, x3)] os
noncomputable def XJ (K : zKT) (N nl : Nat) (m2 : Nat) (x0 x3 : SV) (os : List SO) : Out :=
 bd (ze tab 23 os x0) fun v1 o1=>
 bd (qc (qw tab .lss 3 x3 v1) o1) fun v2 o2=>
 qE v2 (bd (qc (qj tab o2 23 x0 x3) o2) fun v3 o3 =>
 bd (qc (qf tab o3 47 v3) o3) fun v4 o4=>
 bd (qn ⟨tab, qm, K⟩ o4 115 [v4]) fun v5 o5=>
 bd (qc (unS .not v5) o5) fun v6 o6=>
 bd (gd v6 false (some (x3, o6)) o6) fun v7 o7=>
 bd (gd v6 false (qc (qw tab .gtr 3 v7 (.v (.int .i64 0))) o7) o7) fun v8 o8=>
 bd (gd v6 false (some (v8, o8)) o8) fun v9 o9=>
 bd (gd v9 true (some (x0, o9)) o9) fun v10 o10=>
 bd (gd v9 true (some (x3, o10)) o10) fun v11 o11=>
 bd (gd v9 true (qc (qw tab .sub 3 v11 (.v (.int .i64 1))) o11) o11) fun v12 o12=>
 bd (gd v9 true (qc (qj tab o12 23 v10 v12) o12) o12) fun v13 o13=>
 bd (gd v9 true (qc (qa tab 47 v13 0) o13) o13) fun v14 o14=>
 bd (gd v9 true (qc (qf tab o14 3 v14) o14) o14) fun v15 o15=>
 bd (gd v9 true (some (x0, o15)) o15) fun v16 o16=>
 bd (gd v9 true (some (x3, o16)) o16) fun v17 o17=>
 bd (gd v9 true (qc (qw tab .sub 3 v17 (.v (.int .i64 1))) o17) o17) fun v18 o18=>
 bd (gd v9 true (qc (qj tab o18 23 v16 v18) o18) o18) fun v19 o19=>
 bd (gd v9 true (qc (qa tab 47 v19 1) o19) o19) fun v20 o20=>
 bd (gd v9 true (qc (qf tab o20 3 v20) o20) o20) fun v21 o21=>
 bd (gd v9 true (some (x0, o21)) o21) fun v22 o22=>
 bd (gd v9 true (some (x3, o22)) o22) fun v23 o23=>
 bd (gd v9 true (qc (qj tab o23 23 v22 v23) o23) o23) fun v24 o24=>
 bd (gd v9 true (qc (qa tab 47 v24 0) o24) o24) fun v25 o25=>
 bd (gd v9 true (qc (qf tab o25 3 v25) o25) o25) fun v26 o26=>
 bd (gd v9 true (some (x0, o26)) o26) fun v27 o27=>
 bd (gd v9 true (some (x3, o27)) o27) fun v28 o28=>
 bd (gd v9 true (qc (qj tab o28 23 v27 v28) o28) o28) fun v29 o29=>
 bd (gd v9 true (qc (qa tab 47 v29 1) o29) o29) fun v30 o30=>
 bd (gd v9 true (qc (qf tab o30 3 v30) o30) o30) fun v31 o31=>
 bd (gd v9 true (qn ⟨tab, qm, K⟩ o31 107 [v15, v21, v26, v31]) o31) fun v32 o32=>
 bd (gd v9 true (qc (unS .not v32) o32) o32) fun v33 o33=>
 bd (gd v6 false (qc (qL v9 v33 (.v (.bool false))) o33) o33) fun v34 o34=>
 bd (qc (qL v6 (.v (.bool true)) v34) o34) fun v35 o35=>
 qE v35 (zq tab nl o35 (qx (some (.v (.bool false))) (some [])))
 (bd (qc (qw tab .add 3 x3 (.v (.int .i64 1))) o35) fun v36 o36 =>
 Ks K N nl m2 x0 v36 o36))
 (zq tab nl o2 (qx (some (.v (.bool true))) (some [])))
noncomputable def X103 (K : zKT) (N nl : Nat) (x0 : SV) (os : List SO) : Out := qA (cx K) N nl Zl c103 [(0, x0)] os (qV tab [] nl qjd)
noncomputable def B103 (K : zKT) (N nl : Nat) (x0 : SV) (os : List SO) : Out :=
 Ks K N nl N x0 (.v (.int .i64 0)) os
noncomputable def qjn (K : zKT) (N nl : Nat) (m2 : Nat) : Env → List SO → Out := fun env os => q8 nl (jA.lp 2) (fun env os nx => qA (cx K) N nl jA (qM qje [1, 0, 1, 0, 0]) env os (qP nx (qu 0 (zu (qA (cx K) N nl jA (qM qje [1, 1])) (jA.jn 6) (qV tab [] nl qgs))))) m2 (zB (jA.lp 2).alive env) os
noncomputable def Ku (K : zKT) (N nl : Nat) (m2 : Nat) (x0 x1 x4 x6 : SV) (os : List SO) : Out := q8 nl (jA.lp 2) (fun env os nx => qA (cx K) N nl jA (qM qje [1, 0, 1, 0, 0]) env os (qP nx (qu 0 (zu (qA (cx K) N nl jA (qM qje [1, 1])) (jA.jn 6) (qV tab [] nl qgs))))) m2 [(0, x0), (1, x1), (4, x4), (6, x6)] os
noncomputable def Kv (K : zKT) (N nl : Nat) (m2 : Nat) (xs : List SV) (os : List SO) : Out := (fun env os nx => qA (cx K) N nl jA (qM qje [1, 0, 1, 0, 0]) env os (qP nx (qu 0 (zu (qA (cx K) N nl jA (qM qje [1, 1])) (jA.jn 6) (qV tab [] nl qgs))))) (jX [0, 1, 4, 6] xs) os (qjn K N nl m2)
noncomputable def Wk (K : zKT) (N nl : Nat) (m2 : Nat) (x0 x1 x4 x6 : SV) (os : List SO) : Out :=
 bd (qc (qw tab .geq 3 x6 (.v (.int .i64 0))) os) fun v4 o4=>
 qE v4 (bd (qc (qj tab o4 23 x0 x6) o4) fun v5 o5 =>
 bd (qc (qa tab 47 v5 0) o5) fun v6 o6=>
 bd (qc (qf tab o6 3 v6) o6) fun v7 o7=>
 bd (qc (qw tab .eql 3 v7 x1) o7) fun v8 o8=>
 qE v8 (bd (qc (qj tab o8 23 x0 x6) o8) fun v9 o9 =>
 bd (qc (qf tab o9 47 v9) o9) fun v10 o10=>
 bd (qn ⟨tab, qm, K⟩ o10 102 [v10]) fun v11 o11=>
 bd (qp tab o11 47 x4 (some v11)) fun v12 o12=>
 zq tab nl o12 (qx (qf tab o12 47 x4) (qx (some (.v (.bool true))) (some []))))
 (bd (qc (qw tab .sub 3 x6 (.v (.int .i64 1))) o8) fun v13 o13 =>
 Ku K N nl m2 x0 x1 x4 v13 o13))
 (bd (zL tab o4 47 []) fun v14 o14 =>
 bd (qp tab o14 47 x4 (some v14)) fun v15 o15=>
 zq tab nl o15 (qx (qf tab o15 47 x4) (qx (some (.v (.bool false))) (some []))))
noncomputable def X104 (K : zKT) (N nl : Nat) (x0 x1 : SV) (os : List SO) : Out := qA (cx K) N nl jA qje [(0, x0), (1, x1)] os (qV tab [] nl qgs)
noncomputable def B104 (K : zKT) (N nl : Nat) (x0 x1 : SV) (os : List SO) : Out :=
 bd (qD tab os 47) fun v1 o1=>
 bd (ze tab 23 o1 x0) fun v2 o2=>
 bd (qc (qw tab .sub 3 v2 (.v (.int .i64 1))) o2) fun v3 o3=>
 Ku K N nl N x0 x1 v1 v3 o3
noncomputable def X105 (K : zKT) (N nl : Nat) (x0 x1 : SV) (os : List SO) : Out := qA (cx K) N nl fi105 c105 [(0, x0), (1, x1)] os (qV tab [] nl rs105)
noncomputable def B105 (K : zKT) (N nl : Nat) (x0 x1 : SV) (os : List SO) : Out :=
 bd (qn ⟨tab, qm, K⟩ os 104 [x0, x1]) fun v1 o1=>
 bd (qc (ql v1 0) o1) fun v2 o2=>
 bd (qc (ql v1 1) o2) fun v3 o3=>
 bd (qD tab o3 47) fun v4 o4=>
 bd (qp tab o4 47 v4 (some v2)) fun v5 o5=>
 zq tab nl o5 (qx (some v3) (some []))
noncomputable def X106 (K : zKT) (N nl : Nat) (x0 x1 x2 : SV) (os : List SO) : Out := qA (cx K) N nl fi106 c106 [(0, x0), (1, x1), (2, x2)] os (qV tab [] nl rs106)
noncomputable def B106 (K : zKT) (N nl : Nat) (x0 x1 x2 : SV) (os : List SO) : Out :=
 bd (qD tab os 47) fun v1 o1=>
 bd (qn ⟨tab, qm, K⟩ o1 104 [x0, x2]) fun v2 o2=>
 bd (qc (ql v2 0) o2) fun v3 o3=>
 bd (qc (ql v2 1) o3) fun v4 o4=>
 bd (qD tab o4 47) fun v5 o5=>
 bd (qp tab o5 47 v5 (some v3)) fun v6 o6=>
 bd (qn ⟨tab, qm, K⟩ o6 104 [x1, x2]) fun v7 o7=>
 bd (qc (ql v7 0) o7) fun v8 o8=>
 bd (qc (ql v7 1) o8) fun v9 o9=>
 bd (qD tab o9 47) fun v10 o10=>
 bd (qp tab o10 47 v10 (some v8)) fun v11 o11=>
 bd (gd v4 true (some (v9, o11)) o11) fun v12 o12=>
 bd (gd v4 true (qc (unS .not v12) o12) o12) fun v13 o13=>
 bd (gd v4 true (some (v13, o13)) o13) fun v14 o14=>
 bd (gd v14 false (qc (qa tab 47 v5 1) o14) o14) fun v15 o15=>
 bd (gd v14 false (qc (qf tab o15 3 v15) o15) o15) fun v16 o16=>
 bd (gd v14 false (qc (qa tab 47 v10 1) o16) o16) fun v17 o17=>
 bd (gd v14 false (qc (qf tab o17 3 v17) o17) o17) fun v18 o18=>
 bd (gd v14 false (qc (qw tab .gtr 3 v16 v18) o18) o18) fun v19 o19=>
 bd (gd v4 true (qc (qL v14 (.v (.bool true)) v19) o19) o19) fun v20 o20=>
 bd (qc (qL v4 v20 (.v (.bool false))) o20) fun v21 o21=>
 qE v21 (bd (qc (qf tab o21 47 v5) o21) fun v22 o22 =>
 bd (qp tab o22 47 v1 (some v22)) fun v23 o23=>
 zq tab nl o23 (qx (qf tab o23 47 v1) (qx (some (.v (.bool true))) (some []))))
 (bd (qc (qf tab o21 47 v10) o21) fun v24 o24 =>
 bd (qp tab o24 47 v1 (some v24)) fun v25 o25=>
 zq tab nl o25 (qx (qf tab o25 47 v1) (qx (some v9) (some []))))
noncomputable def X107 (K : zKT) (N nl : Nat) (x0 x1 x2 x3 : SV) (os : List SO) : Out := qA (cx K) N nl fi107 c107 [(0, x0), (1, x1), (2, x2), (3, x3)] os (qV tab [] nl rs107)
noncomputable def B107 (K : zKT) (N nl : Nat) (x0 x1 x2 x3 : SV) (os : List SO) : Out :=
 bd (qc (qw tab .lss 3 x0 x2) os) fun v1 o1=>
 bd (gd v1 false (some (x0, o1)) o1) fun v2 o2=>
 bd (gd v1 false (some (x2, o2)) o2) fun v3 o3=>
 bd (gd v1 false (qc (qw tab .eql 3 v2 v3) o3) o3) fun v4 o4=>
 bd (gd v1 false (some (v4, o4)) o4) fun v5 o5=>
 bd (gd v5 true (some (x1, o5)) o5) fun v6 o6=>
 bd (gd v5 true (some (x3, o6)) o6) fun v7 o7=>
 bd (gd v5 true (qc (qw tab .lss 3 v6 v7) o7) o7) fun v8 o8=>
 bd (gd v1 false (qc (qL v5 v8 (.v (.bool false))) o8) o8) fun v9 o9=>
 bd (qc (qL v1 (.v (.bool true)) v9) o9) fun v10 o10=>
 zq tab nl o10 (qx (some v10) (some []))
noncomputable def X110 (K : zKT) (N nl : Nat) (x0 : SV) (os : List SO) : Out := qA (cx K) N nl fi110 c110 [(0, x0)] os (qV tab [] nl rs110)
noncomputable def B110 (K : zKT) (N nl : Nat) (x0 : SV) (os : List SO) : Out :=
 bd (qn ⟨tab, qm, K⟩ os 51 [x0, (.v (.int .i64 1)), (.v (.int .i64 4))]) fun v1 o1=>
 zq tab nl o1 (qx (some v1) (some []))
noncomputable def X111 (K : zKT) (N nl : Nat) (x0 : SV) (os : List SO) : Out := qA (cx K) N nl fi111 c111 [(0, x0)] os (qV tab [] nl rs111)
noncomputable def B111 (K : zKT) (N nl : Nat) (x0 : SV) (os : List SO) : Out :=
 bd (qn ⟨tab, qm, K⟩ os 51 [x0, (.v (.int .i64 1)), (.v (.int .i64 5))]) fun v1 o1=>
 zq tab nl o1 (qx (some v1) (some []))
noncomputable def bk112_3 (K : zKT) (N nl : Nat) (m3 : Nat) : Env → List SO → Out := fun env os => q8 nl (Zm.lp 3) (fun env os nx => qA (cx K) N nl Zm (qM c112 [1, 1, 0, 1, 0, 0]) env os (qP nx (qu 0 (zu (qA (cx K) N nl Zm (qM c112 [1, 1, 1])) (Zm.jn 8) (qV tab [] nl qjf))))) m3 (zB (Zm.lp 3).alive env) os
noncomputable def Kw (K : zKT) (N nl : Nat) (m3 : Nat) (x3 x6 x7 x8 : SV) (os : List SO) : Out := q8 nl (Zm.lp 3) (fun env os nx => qA (cx K) N nl Zm (qM c112 [1, 1, 0, 1, 0, 0]) env os (qP nx (qu 0 (zu (qA (cx K) N nl Zm (qM c112 [1, 1, 1])) (Zm.jn 8) (qV tab [] nl qjf))))) m3 [(3, x3), (6, x6), (7, x7), (8, x8)] os
noncomputable def Wl (K : zKT) (N nl : Nat) (m3 : Nat) (x3 x6 x7 x8 : SV) (os : List SO) : Out :=
 bd (qc (qw tab .lss 3 x8 x7) os) fun v2 o2=>
 qE v2 (bd (qc (qj tab o2 24 x6 x8) o2) fun v3 o3 =>
 bd (qc (qf tab o3 3 v3) o3) fun v4 o4=>
 bd (qc (qw tab .neq 3 v4 x3) o4) fun v5 o5=>
 qE v5 (zq tab nl o5 (qx (some v4) (some [])))
 (bd (qc (qw tab .add 3 x8 (.v (.int .i64 1))) o5) fun v6 o6 =>
 Kw K N nl m3 x3 x6 x7 v6 o6))
 (zq tab nl o2 (qx (some x3) (some [])))
noncomputable def X112 (K : zKT) (N nl : Nat) (x0 : SV) (os : List SO) : Out := qA (cx K) N nl Zm c112 [(0, x0)] os (qV tab [] nl qjf)
noncomputable def B112 (K : zKT) (N nl : Nat) (x0 : SV) (os : List SO) : Out :=
 bd (ze tab 24 os x0) fun v1 o1=>
 Kw K N nl N (.v (.int .i64 0)) x0 v1 (.v (.int .i64 0)) o1
noncomputable def X113 (K : zKT) (N nl : Nat) (x0 x1 : SV) (os : List SO) : Out := qA (cx K) N nl fi113 c113 [(0, x0), (1, x1)] os (qV tab [] nl rs113)
noncomputable def B113 (K : zKT) (N nl : Nat) (x0 x1 : SV) (os : List SO) : Out :=
 bd (qn ⟨tab, qm, K⟩ os 116 [x0]) fun v1 o1=>
 bd (qn ⟨tab, qm, K⟩ o1 116 [x1]) fun v2 o2=>
 qE v1 (qE v2 (zq tab nl o2 (qx (some (.v (.int .i64 0))) (some [])))
 (zq tab nl o2 (qx (some (.v (.int .i64 (-1)))) (some []))))
 (qE v2 (zq tab nl o2 (qx (some (.v (.int .i64 1))) (some [])))
 (bd (qc (qw tab .lss 3 x0 x1) o2) fun v3 o3 =>
 qE v3 (zq tab nl o3 (qx (some (.v (.int .i64 (-1)))) (some [])))
 (bd (qc (qw tab .gtr 3 x0 x1) o3) fun v4 o4 =>
 qE v4 (zq tab nl o4 (qx (some (.v (.int .i64 1))) (some [])))
 (zq tab nl o4 (qx (some (.v (.int .i64 0))) (some []))))))
noncomputable def bk114_2 (K : zKT) (N nl : Nat) (m2 : Nat) : Env → List SO → Out := fun env os => q8 nl (Zn.lp 2) (fun env os nx => qA (cx K) N nl Zn (qM c114 [1, 0, 1, 0, 0]) env os (qP nx (qu 0 (zu (qA (cx K) N nl Zn (qM c114 [1, 1])) (Zn.jn 7) (qV tab [] nl qjg))))) m2 (zB (Zn.lp 2).alive env) os
noncomputable def Kx (K : zKT) (N nl : Nat) (m2 : Nat) (x0 x1 x7 x8 : SV) (os : List SO) : Out := q8 nl (Zn.lp 2) (fun env os nx => qA (cx K) N nl Zn (qM c114 [1, 0, 1, 0, 0]) env os (qP nx (qu 0 (zu (qA (cx K) N nl Zn (qM c114 [1, 1])) (Zn.jn 7) (qV tab [] nl qjg))))) m2 [(0, x0), (1, x1), (7, x7), (8, x8)] os
noncomputable def XK (K : zKT) (N nl : Nat) (m2 : Nat) (x0 x1 x7 x8 : SV) (os : List SO) : Out :=
 bd (qc (qw tab .lss 3 x8 x7) os) fun v2 o2=>
 qE v2 (bd (qc (qj tab o2 23 x0 x8) o2) fun v3 o3 =>
 bd (qc (qf tab o3 47 v3) o3) fun v4 o4=>
 bd (wJ ⟨tab, qm, K⟩ o4 x1 [v4]) fun v5 o5=>
 qE v5 (zq tab nl o5 (qx (some x8) (some [])))
 (bd (qc (qw tab .add 3 x8 (.v (.int .i64 1))) o5) fun v6 o6 =>
 Kx K N nl m2 x0 x1 x7 v6 o6))
 (zq tab nl o2 (qx (some (.v (.int .i64 (-1)))) (some [])))
noncomputable def X114 (K : zKT) (N nl : Nat) (x0 x1 : SV) (os : List SO) : Out := qA (cx K) N nl Zn c114 [(0, x0), (1, x1)] os (qV tab [] nl qjg)
noncomputable def B114 (K : zKT) (N nl : Nat) (x0 x1 : SV) (os : List SO) : Out :=
 bd (ze tab 23 os x0) fun v1 o1=>
 Kx K N nl N x0 x1 v1 (.v (.int .i64 0)) o1
noncomputable def X115 (K : zKT) (N nl : Nat) (x0 : SV) (os : List SO) : Out := qA (cx K) N nl fi115 c115 [(0, x0)] os (qV tab [] nl rs115)
noncomputable def B115 (K : zKT) (N nl : Nat) (x0 : SV) (os : List SO) : Out :=
 bd (wt tab os 47 (some x0)) fun v1 o1=>
 bd (qc (qa tab 47 v1 0) o1) fun v2 o2=>
 bd (qc (qf tab o2 3 v2) o2) fun v3 o3=>
 bd (qn ⟨tab, qm, K⟩ o3 62 [v3, (.v (.int .i64 1)), (.v (.int .i64 4))]) fun v4 o4=>
 bd (gd v4 true (qc (qa tab 47 v1 1) o4) o4) fun v5 o5=>
 bd (gd v4 true (qc (qf tab o5 3 v5) o5) o5) fun v6 o6=>
 bd (gd v4 true (qn ⟨tab, qm, K⟩ o6 62 [v6, (.v (.int .i64 1)), (.v (.int .i64 5))]) o6) fun v7 o7=>
 bd (qc (qL v4 v7 (.v (.bool false))) o7) fun v8 o8=>
 bd (gd v8 true (qc (qa tab 47 v1 2) o8) o8) fun v9 o9=>
 bd (gd v8 true (qc (qf tab o9 45 v9) o9) o9) fun v10 o10=>
 bd (gd v8 true (qn ⟨tab, qm, K⟩ o10 117 [v10]) o10) fun v11 o11=>
 bd (qc (qL v8 v11 (.v (.bool false))) o11) fun v12 o12=>
 bd (gd v12 true (qc (qa tab 47 v1 0) o12) o12) fun v13 o13=>
 bd (gd v12 true (qc (qf tab o13 3 v13) o13) o13) fun v14 o14=>
 bd (gd v12 true (qc (qa tab 47 v1 3) o14) o14) fun v15 o15=>
 bd (gd v12 true (qc (qf tab o15 44 v15) o15) o15) fun v16 o16=>
 bd (gd v12 true (qn ⟨tab, qm, K⟩ o16 118 [v14, v16]) o16) fun v17 o17=>
 bd (qc (qL v12 v17 (.v (.bool false))) o17) fun v18 o18=>
 zq tab nl o18 (qx (some v18) (some []))
noncomputable def X116 (K : zKT) (N nl : Nat) (x0 : SV) (os : List SO) : Out := qA (cx K) N nl fi116 c116 [(0, x0)] os (qV tab [] nl rs116)
noncomputable def B116 (K : zKT) (N nl : Nat) (x0 : SV) (os : List SO) : Out :=
 bd (qc (qw tab .neq 3 x0 x0) os) fun v1 o1=>
 zq tab nl o1 (qx (some v1) (some []))
noncomputable def bk117_2 (K : zKT) (N nl : Nat) (m2 : Nat) : Env → List SO → Out := fun env os => q8 nl (Zo.lp 2) (fun env os nx => qA (cx K) N nl Zo (qM c117 [1, 0, 1, 0, 0]) env os (qP nx (qu 0 (zu (qA (cx K) N nl Zo (qM c117 [1, 1])) (Zo.jn 6) (qV tab [] nl qjh))))) m2 (zB (Zo.lp 2).alive env) os
noncomputable def Ky (K : zKT) (N nl : Nat) (m2 : Nat) (x0 x3 : SV) (os : List SO) : Out := q8 nl (Zo.lp 2) (fun env os nx => qA (cx K) N nl Zo (qM c117 [1, 0, 1, 0, 0]) env os (qP nx (qu 0 (zu (qA (cx K) N nl Zo (qM c117 [1, 1])) (Zo.jn 6) (qV tab [] nl qjh))))) m2 [(0, x0), (3, x3)] os
noncomputable def XL (K : zKT) (N nl : Nat) (m2 : Nat) (x0 x3 : SV) (os : List SO) : Out :=
 bd (ze tab 45 os x0) fun v1 o1=>
 bd (qc (qw tab .lss 3 x3 v1) o1) fun v2 o2=>
 qE v2 (bd (qc (qj tab o2 45 x0 x3) o2) fun v3 o3 =>
 bd (qc (qa tab 68 v3 0) o3) fun v4 o4=>
 bd (qc (qf tab o4 3 v4) o4) fun v5 o5=>
 bd (qn ⟨tab, qm, K⟩ o5 62 [v5, (.v (.int .i64 0)), (.v (.int .i64 5))]) fun v6 o6=>
 bd (qc (unS .not v6) o6) fun v7 o7=>
 bd (gd v7 false (some (x0, o7)) o7) fun v8 o8=>
 bd (gd v7 false (some (x3, o8)) o8) fun v9 o9=>
 bd (gd v7 false (qc (qj tab o9 45 v8 v9) o9) o9) fun v10 o10=>
 bd (gd v7 false (qc (qa tab 68 v10 1) o10) o10) fun v11 o11=>
 bd (gd v7 false (qc (qf tab o11 3 v11) o11) o11) fun v12 o12=>
 bd (gd v7 false (qn ⟨tab, qm, K⟩ o12 62 [v12, (.v (.int .i64 0)), (.v (.int .i64 9))]) o12) fun v13 o13=>
 bd (gd v7 false (qc (unS .not v13) o13) o13) fun v14 o14=>
 bd (qc (qL v7 (.v (.bool true)) v14) o14) fun v15 o15=>
 bd (gd v15 false (some (x3, o15)) o15) fun v16 o16=>
 bd (gd v15 false (qc (qw tab .gtr 3 v16 (.v (.int .i64 0))) o16) o16) fun v17 o17=>
 bd (gd v15 false (some (v17, o17)) o17) fun v18 o18=>
 bd (gd v18 true (some (x0, o18)) o18) fun v19 o19=>
 bd (gd v18 true (some (x3, o19)) o19) fun v20 o20=>
 bd (gd v18 true (qc (qw tab .sub 3 v20 (.v (.int .i64 1))) o20) o20) fun v21 o21=>
 bd (gd v18 true (qc (qj tab o21 45 v19 v21) o21) o21) fun v22 o22=>
 bd (gd v18 true (qc (qa tab 68 v22 0) o22) o22) fun v23 o23=>
 bd (gd v18 true (qc (qf tab o23 3 v23) o23) o23) fun v24 o24=>
 bd (gd v18 true (some (x0, o24)) o24) fun v25 o25=>
 bd (gd v18 true (some (x3, o25)) o25) fun v26 o26=>
 bd (gd v18 true (qc (qj tab o26 45 v25 v26) o26) o26) fun v27 o27=>
 bd (gd v18 true (qc (qa tab 68 v27 0) o27) o27) fun v28 o28=>
 bd (gd v18 true (qc (qf tab o28 3 v28) o28) o28) fun v29 o29=>
 bd (gd v18 true (qc (qw tab .geq 3 v24 v29) o29) o29) fun v30 o30=>
 bd (gd v15 false (qc (qL v18 v30 (.v (.bool false))) o30) o30) fun v31 o31=>
 bd (qc (qL v15 (.v (.bool true)) v31) o31) fun v32 o32=>
 qE v32 (zq tab nl o32 (qx (some (.v (.bool false))) (some [])))
 (bd (qc (qw tab .add 3 x3 (.v (.int .i64 1))) o32) fun v33 o33 =>
 Ky K N nl m2 x0 v33 o33))
 (bd (ze tab 45 o2 x0) fun v34 o34 =>
 bd (qc (qw tab .leq 3 v34 (.v (.int .i64 2))) o34) fun v35 o35=>
 zq tab nl o35 (qx (some v35) (some [])))
noncomputable def X117 (K : zKT) (N nl : Nat) (x0 : SV) (os : List SO) : Out := qA (cx K) N nl Zo c117 [(0, x0)] os (qV tab [] nl qjh)
noncomputable def B117 (K : zKT) (N nl : Nat) (x0 : SV) (os : List SO) : Out :=
 Ky K N nl N x0 (.v (.int .i64 0)) os
noncomputable def qjo (K : zKT) (N nl : Nat) (m2 : Nat) : Env → List SO → Out := fun env os => q8 nl (jB.lp 2) (fun env os nx => qA (cx K) N nl jB (qM qji [1, 0, 1, 0, 0]) env os (qP nx (qu 0 (zu (qA (cx K) N nl jB (qM qji [1, 1])) (jB.jn 7) (qV tab [] nl qgt))))) m2 (zB (jB.lp 2).alive env) os
noncomputable def Kz (K : zKT) (N nl : Nat) (m2 : Nat) (x0 x1 x5 : SV) (os : List SO) : Out := q8 nl (jB.lp 2) (fun env os nx => qA (cx K) N nl jB (qM qji [1, 0, 1, 0, 0]) env os (qP nx (qu 0 (zu (qA (cx K) N nl jB (qM qji [1, 1])) (jB.jn 7) (qV tab [] nl qgt))))) m2 [(0, x0), (1, x1), (5, x5)] os
noncomputable def KA (K : zKT) (N nl : Nat) (m2 : Nat) (xs : List SV) (os : List SO) : Out := (fun env os nx => qA (cx K) N nl jB (qM qji [1, 0, 1, 0, 0]) env os (qP nx (qu 0 (zu (qA (cx K) N nl jB (qM qji [1, 1])) (jB.jn 7) (qV tab [] nl qgt))))) (jX [0, 1, 5] xs) os (qjo K N nl m2)
noncomputable def XM (K : zKT) (N nl : Nat) (m2 : Nat) (x0 x1 x5 : SV) (os : List SO) : Out :=
 bd (ze tab 44 os x1) fun v1 o1=>
 bd (qc (qw tab .lss 3 x5 v1) o1) fun v2 o2=>
 qE v2 (bd (qc (qj tab o2 44 x1 x5) o2) fun v3 o3 =>
 bd (qc (qf tab o3 43 v3) o3) fun v4 o4=>
 bd (qD tab o4 43) fun v5 o5=>
 bd (qp tab o5 43 v5 (some v4)) fun v6 o6=>
 bd (qc (qa tab 43 v5 0) o6) fun v7 o7=>
 bd (qc (qf tab o7 3 v7) o7) fun v8 o8=>
 bd (qn ⟨tab, qm, K⟩ o8 62 [v8, (.v (.int .i64 1)), (.v (.int .i64 4))]) fun v9 o9=>
 bd (qc (unS .not v9) o9) fun v10 o10=>
 bd (gd v10 false (qc (qa tab 43 v5 0) o10) o10) fun v11 o11=>
 bd (gd v10 false (qc (qf tab o11 3 v11) o11) o11) fun v12 o12=>
 bd (gd v10 false (some (x0, o12)) o12) fun v13 o13=>
 bd (gd v10 false (qc (qw tab .eql 3 v12 v13) o13) o13) fun v14 o14=>
 bd (qc (qL v10 (.v (.bool true)) v14) o14) fun v15 o15=>
 bd (gd v15 false (qc (qa tab 43 v5 1) o15) o15) fun v16 o16=>
 bd (gd v15 false (qc (qf tab o16 3 v16) o16) o16) fun v17 o17=>
 bd (gd v15 false (qn ⟨tab, qm, K⟩ o17 62 [v17, (.v (.int .i64 1)), (.v (.int .i64 5))]) o17) fun v18 o18=>
 bd (gd v15 false (qc (unS .not v18) o18) o18) fun v19 o19=>
 bd (qc (qL v15 (.v (.bool true)) v19) o19) fun v20 o20=>
 bd (gd v20 false (some (x5, o20)) o20) fun v21 o21=>
 bd (gd v20 false (qc (qw tab .gtr 3 v21 (.v (.int .i64 0))) o21) o21) fun v22 o22=>
 bd (gd v20 false (some (v22, o22)) o22) fun v23 o23=>
 bd (gd v23 true (some (x1, o23)) o23) fun v24 o24=>
 bd (gd v23 true (some (x5, o24)) o24) fun v25 o25=>
 bd (gd v23 true (qc (qw tab .sub 3 v25 (.v (.int .i64 1))) o25) o25) fun v26 o26=>
 bd (gd v23 true (qc (qj tab o26 44 v24 v26) o26) o26) fun v27 o27=>
 bd (gd v23 true (qc (qa tab 43 v27 0) o27) o27) fun v28 o28=>
 bd (gd v23 true (qc (qf tab o28 3 v28) o28) o28) fun v29 o29=>
 bd (gd v23 true (qc (qa tab 43 v5 0) o29) o29) fun v30 o30=>
 bd (gd v23 true (qc (qf tab o30 3 v30) o30) o30) fun v31 o31=>
 bd (gd v23 true (qc (qw tab .geq 3 v29 v31) o31) o31) fun v32 o32=>
 bd (gd v20 false (qc (qL v23 v32 (.v (.bool false))) o32) o32) fun v33 o33=>
 bd (qc (qL v20 (.v (.bool true)) v33) o33) fun v34 o34=>
 qE v34 (zq tab nl o34 (qx (some (.v (.bool false))) (some [])))
 (bd (qc (qw tab .add 3 x5 (.v (.int .i64 1))) o34) fun v35 o35 =>
 Kz K N nl m2 x0 x1 v35 o35))
 (bd (ze tab 44 o2 x1) fun v36 o36 =>
 bd (qc (qw tab .leq 3 v36 (.v (.int .i64 2))) o36) fun v37 o37=>
 zq tab nl o37 (qx (some v37) (some [])))
noncomputable def X118 (K : zKT) (N nl : Nat) (x0 x1 : SV) (os : List SO) : Out := qA (cx K) N nl jB qji [(0, x0), (1, x1)] os (qV tab [] nl qgt)
noncomputable def B118 (K : zKT) (N nl : Nat) (x0 x1 : SV) (os : List SO) : Out :=
 Kz K N nl N x0 x1 (.v (.int .i64 0)) os
theorem X3_s (K : zKT) (N nl : Nat) (x0 : SV) (os : List SO) : X3 K N nl x0 os = B3 K N nl x0 os := by kernel_rfl
theorem E3 (n : Nat) (x0 : SV) (os : List SO) : qd prg (n + 1) 3 [x0] os = X3 (qd prg n) (n + 1) os.length x0 os := by kernel_rfl
theorem U3 {Q : SV → List SO → Prop} {x0 : SV} {os : List SO} {nl : Nat} (hnl : os.length = nl) (h : Ev (fun n => B3 (qd prg n) (n + 1) nl x0 os) Q) : Ev (fun n => qd prg n 3 [x0] os) Q := by subst hnl; exact qQ (fun n => (E3 n _ _).trans (X3_s _ _ _ _ _)) h
theorem X4_s (K : zKT) (N nl : Nat) (x0 : SV) (os : List SO) : X4 K N nl x0 os = B4 K N nl x0 os := by kernel_rfl
theorem E4 (n : Nat) (x0 : SV) (os : List SO) : qd prg (n + 1) 4 [x0] os = X4 (qd prg n) (n + 1) os.length x0 os := by kernel_rfl
theorem U4 {Q : SV → List SO → Prop} {x0 : SV} {os : List SO} {nl : Nat} (hnl : os.length = nl) (h : Ev (fun n => B4 (qd prg n) (n + 1) nl x0 os) Q) : Ev (fun n => qd prg n 4 [x0] os) Q := by subst hnl; exact qQ (fun n => (E4 n _ _).trans (X4_s _ _ _ _ _)) h
theorem X5_s (K : zKT) (N nl : Nat) (x0 x1 : SV) (os : List SO) : X5 K N nl x0 x1 os = B5 K N nl x0 x1 os := by kernel_rfl
theorem E5 (n : Nat) (x0 x1 : SV) (os : List SO) : qd prg (n + 1) 5 [x0, x1] os = X5 (qd prg n) (n + 1) os.length x0 x1 os := by kernel_rfl
theorem U5 {Q : SV → List SO → Prop} {x0 x1 : SV} {os : List SO} {nl : Nat} (hnl : os.length = nl) (h : Ev (fun n => B5 (qd prg n) (n + 1) nl x0 x1 os) Q) : Ev (fun n => qd prg n 5 [x0, x1] os) Q := by subst hnl; exact qQ (fun n => (E5 n _ _ _).trans (X5_s _ _ _ _ _ _)) h
theorem X6_s (K : zKT) (N nl : Nat) (x0 : SV) (os : List SO) : X6 K N nl x0 os = B6 K N nl x0 os := by kernel_rfl
theorem E6 (n : Nat) (x0 : SV) (os : List SO) : qd prg (n + 1) 6 [x0] os = X6 (qd prg n) (n + 1) os.length x0 os := by kernel_rfl
theorem U6 {Q : SV → List SO → Prop} {x0 : SV} {os : List SO} {nl : Nat} (hnl : os.length = nl) (h : Ev (fun n => B6 (qd prg n) (n + 1) nl x0 os) Q) : Ev (fun n => qd prg n 6 [x0] os) Q := by subst hnl; exact qQ (fun n => (E6 n _ _).trans (X6_s _ _ _ _ _)) h
theorem X7_s (K : zKT) (N nl : Nat) (x0 : SV) (os : List SO) : X7 K N nl x0 os = B7 K N nl x0 os := by kernel_rfl
theorem E7 (n : Nat) (x0 : SV) (os : List SO) : qd prg (n + 1) 7 [x0] os = X7 (qd prg n) (n + 1) os.length x0 os := by kernel_rfl
theorem U7 {Q : SV → List SO → Prop} {x0 : SV} {os : List SO} {nl : Nat} (hnl : os.length = nl) (h : Ev (fun n => B7 (qd prg n) (n + 1) nl x0 os) Q) : Ev (fun n => qd prg n 7 [x0] os) Q := by subst hnl; exact qQ (fun n => (E7 n _ _).trans (X7_s _ _ _ _ _)) h
theorem qjp (K : zKT) (N nl : Nat) (m11 : Nat) (x3 x4 x6 x7 x8 : SV) (os : List SO) : qaR K N nl (m11 + 1) x3 x4 x6 x7 x8 os = qdx K N nl m11 x3 x4 x6 x7 x8 os := by kernel_rfl
theorem UL8_11 {nl c : Nat} {Q : SV → List SO → Prop} {x3 x4 x6 x7 x8 : SV} {os : List SO} (h : Ev (fun n => qdx (qd prg n) (n + 1) nl (n + 1 - (c + 1)) x3 x4 x6 x7 x8 os) Q) : Ev (fun n => qaR (qd prg n) (n + 1) nl (n + 1 - c) x3 x4 x6 x7 x8 os) Q := zb (L := fun n m => qaR (qd prg n) (n + 1) nl m x3 x4 x6 x7 x8 os) (fun n m => qjp _ _ _ _ _ _ _ _ _ _) h
theorem X8_s (K : zKT) (N nl : Nat) (x0 : SV) (os : List SO) : X8 K N nl x0 os = B8 K N nl x0 os := by kernel_rfl
theorem E8 (n : Nat) (x0 : SV) (os : List SO) : qd prg (n + 1) 8 [x0] os = X8 (qd prg n) (n + 1) os.length x0 os := by kernel_rfl
theorem U8 {Q : SV → List SO → Prop} {x0 : SV} {os : List SO} {nl : Nat} (hnl : os.length = nl) (h : Ev (fun n => B8 (qd prg n) (n + 1) nl x0 os) Q) : Ev (fun n => qd prg n 8 [x0] os) Q := by subst hnl; exact qQ (fun n => (E8 n _ _).trans (X8_s _ _ _ _ _)) h
theorem X9_s (K : zKT) (N nl : Nat) (x0 : SV) (os : List SO) : X9 K N nl x0 os = B9 K N nl x0 os := by kernel_rfl
theorem E9 (n : Nat) (x0 : SV) (os : List SO) : qd prg (n + 1) 9 [x0] os = X9 (qd prg n) (n + 1) os.length x0 os := by kernel_rfl
theorem U9 {Q : SV → List SO → Prop} {x0 : SV} {os : List SO} {nl : Nat} (hnl : os.length = nl) (h : Ev (fun n => B9 (qd prg n) (n + 1) nl x0 os) Q) : Ev (fun n => qd prg n 9 [x0] os) Q := by subst hnl; exact qQ (fun n => (E9 n _ _).trans (X9_s _ _ _ _ _)) h
theorem qgG (K : zKT) (N nl : Nat) (m14 : Nat) (x3 x5 x7 x8 x9 x10 : SV) (os : List SO) : Kd K N nl (m14 + 1) x3 x5 x7 x8 x9 x10 os = Xk K N nl m14 x3 x5 x7 x8 x9 x10 os := by kernel_rfl
theorem qjq {nl c : Nat} {Q : SV → List SO → Prop} {x3 x5 x7 x8 x9 x10 : SV} {os : List SO} (h : Ev (fun n => Xk (qd prg n) (n + 1) nl (n + 1 - (c + 1)) x3 x5 x7 x8 x9 x10 os) Q) : Ev (fun n => Kd (qd prg n) (n + 1) nl (n + 1 - c) x3 x5 x7 x8 x9 x10 os) Q := zb (L := fun n m => Kd (qd prg n) (n + 1) nl m x3 x5 x7 x8 x9 x10 os) (fun n m => qgG _ _ _ _ _ _ _ _ _ _ _) h
theorem qgH (K : zKT) (N nl : Nat) (m14 : Nat) (x3 x5 x7 x8 x9 x10 : SV) (os : List SO) : JW K N nl m14 x3 x5 x7 x8 x9 x10 os = Xl K N nl m14 x3 x5 x7 x8 x9 x10 os := by kernel_rfl
theorem qjr {nl : Nat} {Q : SV → List SO → Prop} {m14 : Nat → Nat} {x3 x5 x7 x8 x9 x10 : SV} {os : List SO} (h : Ev (fun n => Xl (qd prg n) (n + 1) nl (m14 n) x3 x5 x7 x8 x9 x10 os) Q) : Ev (fun n => JW (qd prg n) (n + 1) nl (m14 n) x3 x5 x7 x8 x9 x10 os) Q := zV (fun n => qgH _ _ _ _ _ _ _ _ _ _ _) h
theorem X10_s (K : zKT) (N nl : Nat) (x0 : SV) (os : List SO) : X10 K N nl x0 os = B10 K N nl x0 os := by kernel_rfl
theorem E10 (n : Nat) (x0 : SV) (os : List SO) : qd prg (n + 1) 10 [x0] os = X10 (qd prg n) (n + 1) os.length x0 os := by kernel_rfl
theorem U10 {Q : SV → List SO → Prop} {x0 : SV} {os : List SO} {nl : Nat} (hnl : os.length = nl) (h : Ev (fun n => B10 (qd prg n) (n + 1) nl x0 os) Q) : Ev (fun n => qd prg n 10 [x0] os) Q := by subst hnl; exact qQ (fun n => (E10 n _ _).trans (X10_s _ _ _ _ _)) h
theorem qgI (K : zKT) (N nl : Nat) (x8 x12 x13 : SV) (os : List SO) : Yf K N nl x8 x12 x13 os = Xm K N nl x8 x12 x13 os := by kernel_rfl
theorem qjs {nl : Nat} {Q : SV → List SO → Prop} {x8 x12 x13 : SV} {os : List SO} (h : Ev (fun n => Xm (qd prg n) (n + 1) nl x8 x12 x13 os) Q) : Ev (fun n => Yf (qd prg n) (n + 1) nl x8 x12 x13 os) Q := zV (fun n => qgI _ _ _ _ _ _ _) h
theorem X11_s (K : zKT) (N nl : Nat) (x0 x1 : SV) (os : List SO) : X11 K N nl x0 x1 os = B11 K N nl x0 x1 os := by kernel_rfl
theorem E11 (n : Nat) (x0 x1 : SV) (os : List SO) : qd prg (n + 1) 11 [x0, x1] os = X11 (qd prg n) (n + 1) os.length x0 x1 os := by kernel_rfl
theorem U11 {Q : SV → List SO → Prop} {x0 x1 : SV} {os : List SO} {nl : Nat} (hnl : os.length = nl) (h : Ev (fun n => B11 (qd prg n) (n + 1) nl x0 x1 os) Q) : Ev (fun n => qd prg n 11 [x0, x1] os) Q := by subst hnl; exact qQ (fun n => (E11 n _ _ _).trans (X11_s _ _ _ _ _ _)) h
theorem qgJ (K : zKT) (N nl : Nat) (m10 : Nat) (x4 x5 x6 x9 x11 x12 : SV) (os : List SO) : Ke K N nl (m10 + 1) x4 x5 x6 x9 x11 x12 os = gcB nl [x4, x5, x6, x9, x11, x12] os fun xs os => Kf K N nl m10 xs os := by kernel_rfl
theorem XN {nl c : Nat} {Q : SV → List SO → Prop} {x4 x5 x6 x9 x11 x12 : SV} {os : List SO} (h : Ev (fun n => gcB nl [x4, x5, x6, x9, x11, x12] os fun xs os => Kf (qd prg n) (n + 1) nl (n + 1 - (c + 1)) xs os) Q) : Ev (fun n => Ke (qd prg n) (n + 1) nl (n + 1 - c) x4 x5 x6 x9 x11 x12 os) Q := zb (L := fun n m => Ke (qd prg n) (n + 1) nl m x4 x5 x6 x9 x11 x12 os) (fun n m => qgJ _ _ _ _ _ _ _ _ _ _ _) h
theorem qep {nl : Nat} {Q : SV → List SO → Prop} {x4 x5 x6 x9 x11 x12 : SV} {os : List SO} (h : Ev (fun n => gcB nl [x4, x5, x6, x9, x11, x12] os fun xs os => Kf (qd prg n) (n + 1) nl (n + 1 - 1) xs os) Q) : Ev (fun n => Ke (qd prg n) (n + 1) nl (n + 1) x4 x5 x6 x9 x11 x12 os) Q := XN (c := 0) h
theorem qgK (K : zKT) (N nl : Nat) (m10 : Nat) (x4 x5 x6 x9 x11 x12 : SV) (os : List SO) : Kf K N nl m10 [x4, x5, x6, x9, x11, x12] os = Xn K N nl m10 x4 x5 x6 x9 x11 x12 os := by kernel_rfl
theorem qjt {nl : Nat} {Q : SV → List SO → Prop} (m10 : Nat → Nat) {x4 x5 x6 x9 x11 x12 : SV} {os : List SO} (h : Ev (fun n => Xn (qd prg n) (n + 1) nl (m10 n) x4 x5 x6 x9 x11 x12 os) Q) : Ev (fun n => Kf (qd prg n) (n + 1) nl (m10 n) [x4, x5, x6, x9, x11, x12] os) Q := zV (fun n => qgK _ _ _ _ _ _ _ _ _ _ _) h
theorem qgL (K : zKT) (N nl : Nat) (m10 : Nat) (x4 x5 x6 x9 x11 x12 x13 : SV) (os : List SO) : Yg K N nl m10 x4 x5 x6 x9 x11 x12 x13 os = Xo K N nl m10 x4 x5 x6 x9 x11 x12 x13 os := by kernel_rfl
theorem qju {nl : Nat} {Q : SV → List SO → Prop} {m10 : Nat → Nat} {x4 x5 x6 x9 x11 x12 x13 : SV} {os : List SO} (h : Ev (fun n => Xo (qd prg n) (n + 1) nl (m10 n) x4 x5 x6 x9 x11 x12 x13 os) Q) : Ev (fun n => Yg (qd prg n) (n + 1) nl (m10 n) x4 x5 x6 x9 x11 x12 x13 os) Q := zV (fun n => qgL _ _ _ _ _ _ _ _ _ _ _ _) h
theorem qgM (K : zKT) (N nl : Nat) (m10 : Nat) (x4 x5 x6 x9 x11 x12 x15 : SV) (os : List SO) : Yh K N nl m10 x4 x5 x6 x9 x11 x12 x15 os = Xp K N nl m10 x4 x5 x6 x9 x11 x12 x15 os := by kernel_rfl
theorem qjv {nl : Nat} {Q : SV → List SO → Prop} {m10 : Nat → Nat} {x4 x5 x6 x9 x11 x12 x15 : SV} {os : List SO} (h : Ev (fun n => Xp (qd prg n) (n + 1) nl (m10 n) x4 x5 x6 x9 x11 x12 x15 os) Q) : Ev (fun n => Yh (qd prg n) (n + 1) nl (m10 n) x4 x5 x6 x9 x11 x12 x15 os) Q := zV (fun n => qgM _ _ _ _ _ _ _ _ _ _ _ _) h
theorem qgN (K : zKT) (N nl : Nat) (m10 : Nat) (x4 x5 x6 x9 x11 x12 : SV) (os : List SO) : Yi K N nl m10 x4 x5 x6 x9 x11 x12 os = Xq K N nl m10 x4 x5 x6 x9 x11 x12 os := by kernel_rfl
theorem qjw {nl : Nat} {Q : SV → List SO → Prop} {m10 : Nat → Nat} {x4 x5 x6 x9 x11 x12 : SV} {os : List SO} (h : Ev (fun n => Xq (qd prg n) (n + 1) nl (m10 n) x4 x5 x6 x9 x11 x12 os) Q) : Ev (fun n => Yi (qd prg n) (n + 1) nl (m10 n) x4 x5 x6 x9 x11 x12 os) Q := zV (fun n => qgN _ _ _ _ _ _ _ _ _ _ _) h
theorem X12_s (K : zKT) (N nl : Nat) (x0 : SV) (os : List SO) : X12 K N nl x0 os = B12 K N nl x0 os := by kernel_rfl
theorem E12 (n : Nat) (x0 : SV) (os : List SO) : qd prg (n + 1) 12 [x0] os = X12 (qd prg n) (n + 1) os.length x0 os := by kernel_rfl
theorem U12 {Q : SV → List SO → Prop} {x0 : SV} {os : List SO} {nl : Nat} (hnl : os.length = nl) (h : Ev (fun n => B12 (qd prg n) (n + 1) nl x0 os) Q) : Ev (fun n => qd prg n 12 [x0] os) Q := by subst hnl; exact qQ (fun n => (E12 n _ _).trans (X12_s _ _ _ _ _)) h
theorem qgO (K : zKT) (N nl : Nat) (m10 : Nat) (x4 x5 x7 x8 : SV) (os : List SO) : Kg K N nl (m10 + 1) x4 x5 x7 x8 os = gcB nl [x4, x5, x7, x8] os fun xs os => Kh K N nl m10 xs os := by kernel_rfl
theorem XO {nl c : Nat} {Q : SV → List SO → Prop} {x4 x5 x7 x8 : SV} {os : List SO} (h : Ev (fun n => gcB nl [x4, x5, x7, x8] os fun xs os => Kh (qd prg n) (n + 1) nl (n + 1 - (c + 1)) xs os) Q) : Ev (fun n => Kg (qd prg n) (n + 1) nl (n + 1 - c) x4 x5 x7 x8 os) Q := zb (L := fun n m => Kg (qd prg n) (n + 1) nl m x4 x5 x7 x8 os) (fun n m => qgO _ _ _ _ _ _ _ _ _) h
theorem qeq {nl : Nat} {Q : SV → List SO → Prop} {x4 x5 x7 x8 : SV} {os : List SO} (h : Ev (fun n => gcB nl [x4, x5, x7, x8] os fun xs os => Kh (qd prg n) (n + 1) nl (n + 1 - 1) xs os) Q) : Ev (fun n => Kg (qd prg n) (n + 1) nl (n + 1) x4 x5 x7 x8 os) Q := XO (c := 0) h
theorem qgP (K : zKT) (N nl : Nat) (m10 : Nat) (x4 x5 x7 x8 : SV) (os : List SO) : Kh K N nl m10 [x4, x5, x7, x8] os = Xr K N nl m10 x4 x5 x7 x8 os := by kernel_rfl
theorem qjx {nl : Nat} {Q : SV → List SO → Prop} (m10 : Nat → Nat) {x4 x5 x7 x8 : SV} {os : List SO} (h : Ev (fun n => Xr (qd prg n) (n + 1) nl (m10 n) x4 x5 x7 x8 os) Q) : Ev (fun n => Kh (qd prg n) (n + 1) nl (m10 n) [x4, x5, x7, x8] os) Q := zV (fun n => qgP _ _ _ _ _ _ _ _ _) h
theorem qgQ (K : zKT) (N nl : Nat) (m10 : Nat) (x4 x5 x7 x8 x9 x10 : SV) (os : List SO) : Yj K N nl m10 x4 x5 x7 x8 x9 x10 os = Xs K N nl m10 x4 x5 x7 x8 x9 x10 os := by kernel_rfl
theorem qjy {nl : Nat} {Q : SV → List SO → Prop} {m10 : Nat → Nat} {x4 x5 x7 x8 x9 x10 : SV} {os : List SO} (h : Ev (fun n => Xs (qd prg n) (n + 1) nl (m10 n) x4 x5 x7 x8 x9 x10 os) Q) : Ev (fun n => Yj (qd prg n) (n + 1) nl (m10 n) x4 x5 x7 x8 x9 x10 os) Q := zV (fun n => qgQ _ _ _ _ _ _ _ _ _ _ _) h
theorem X13_s (K : zKT) (N nl : Nat) (x0 : SV) (os : List SO) : X13 K N nl x0 os = B13 K N nl x0 os := by kernel_rfl
theorem E13 (n : Nat) (x0 : SV) (os : List SO) : qd prg (n + 1) 13 [x0] os = X13 (qd prg n) (n + 1) os.length x0 os := by kernel_rfl
theorem U13 {Q : SV → List SO → Prop} {x0 : SV} {os : List SO} {nl : Nat} (hnl : os.length = nl) (h : Ev (fun n => B13 (qd prg n) (n + 1) nl x0 os) Q) : Ev (fun n => qd prg n 13 [x0] os) Q := by subst hnl; exact qQ (fun n => (E13 n _ _).trans (X13_s _ _ _ _ _)) h
theorem qjz (K : zKT) (N nl : Nat) (x1 x5 x8 x9 : SV) (os : List SO) : Qb K N nl x1 x5 x8 x9 os = qdz K N nl x1 x5 x8 x9 os := by kernel_rfl
theorem UJ14_9 {nl : Nat} {Q : SV → List SO → Prop} {x1 x5 x8 x9 : SV} {os : List SO} (h : Ev (fun n => qdz (qd prg n) (n + 1) nl x1 x5 x8 x9 os) Q) : Ev (fun n => Qb (qd prg n) (n + 1) nl x1 x5 x8 x9 os) Q := zV (fun n => qjz _ _ _ _ _ _ _ _) h
theorem qgR (K : zKT) (N nl : Nat) (x5 x9 x11 x12 : SV) (os : List SO) : y5 K N nl x5 x9 x11 x12 os = Xt K N nl x5 x9 x11 x12 os := by kernel_rfl
theorem qjA {nl : Nat} {Q : SV → List SO → Prop} {x5 x9 x11 x12 : SV} {os : List SO} (h : Ev (fun n => Xt (qd prg n) (n + 1) nl x5 x9 x11 x12 os) Q) : Ev (fun n => y5 (qd prg n) (n + 1) nl x5 x9 x11 x12 os) Q := zV (fun n => qgR _ _ _ _ _ _ _ _) h
theorem X14_s (K : zKT) (N nl : Nat) (x0 x1 : SV) (os : List SO) : X14 K N nl x0 x1 os = B14 K N nl x0 x1 os := by kernel_rfl
theorem E14 (n : Nat) (x0 x1 : SV) (os : List SO) : qd prg (n + 1) 14 [x0, x1] os = X14 (qd prg n) (n + 1) os.length x0 x1 os := by kernel_rfl
theorem U14 {Q : SV → List SO → Prop} {x0 x1 : SV} {os : List SO} {nl : Nat} (hnl : os.length = nl) (h : Ev (fun n => B14 (qd prg n) (n + 1) nl x0 x1 os) Q) : Ev (fun n => qd prg n 14 [x0, x1] os) Q := by subst hnl; exact qQ (fun n => (E14 n _ _ _).trans (X14_s _ _ _ _ _ _)) h
theorem qjB (K : zKT) (N nl : Nat) (x2 x4 : SV) (os : List SO) : qgu K N nl x2 x4 os = qdA K N nl x2 x4 os := by kernel_rfl
theorem UJ15_5 {nl : Nat} {Q : SV → List SO → Prop} {x2 x4 : SV} {os : List SO} (h : Ev (fun n => qdA (qd prg n) (n + 1) nl x2 x4 os) Q) : Ev (fun n => qgu (qd prg n) (n + 1) nl x2 x4 os) Q := zV (fun n => qjB _ _ _ _ _ _) h
theorem X15_s (K : zKT) (N nl : Nat) (x0 : SV) (os : List SO) : X15 K N nl x0 os = B15 K N nl x0 os := by kernel_rfl
theorem E15 (n : Nat) (x0 : SV) (os : List SO) : qd prg (n + 1) 15 [x0] os = X15 (qd prg n) (n + 1) os.length x0 os := by kernel_rfl
theorem U15 {Q : SV → List SO → Prop} {x0 : SV} {os : List SO} {nl : Nat} (hnl : os.length = nl) (h : Ev (fun n => B15 (qd prg n) (n + 1) nl x0 os) Q) : Ev (fun n => qd prg n 15 [x0] os) Q := by subst hnl; exact qQ (fun n => (E15 n _ _).trans (X15_s _ _ _ _ _)) h
theorem X16_s (K : zKT) (N nl : Nat) (x0 : SV) (os : List SO) : X16 K N nl x0 os = B16 K N nl x0 os := by kernel_rfl
theorem E16 (n : Nat) (x0 : SV) (os : List SO) : qd prg (n + 1) 16 [x0] os = X16 (qd prg n) (n + 1) os.length x0 os := by kernel_rfl
theorem U16 {Q : SV → List SO → Prop} {x0 : SV} {os : List SO} {nl : Nat} (hnl : os.length = nl) (h : Ev (fun n => B16 (qd prg n) (n + 1) nl x0 os) Q) : Ev (fun n => qd prg n 16 [x0] os) Q := by subst hnl; exact qQ (fun n => (E16 n _ _).trans (X16_s _ _ _ _ _)) h
theorem X17_s (K : zKT) (N nl : Nat) (x0 : SV) (os : List SO) : X17 K N nl x0 os = B17 K N nl x0 os := by kernel_rfl
theorem E17 (n : Nat) (x0 : SV) (os : List SO) : qd prg (n + 1) 17 [x0] os = X17 (qd prg n) (n + 1) os.length x0 os := by kernel_rfl
theorem U17 {Q : SV → List SO → Prop} {x0 : SV} {os : List SO} {nl : Nat} (hnl : os.length = nl) (h : Ev (fun n => B17 (qd prg n) (n + 1) nl x0 os) Q) : Ev (fun n => qd prg n 17 [x0] os) Q := by subst hnl; exact qQ (fun n => (E17 n _ _).trans (X17_s _ _ _ _ _)) h
theorem X18_s (K : zKT) (N nl : Nat) (os : List SO) : X18 K N nl os = B18 K N nl os := by kernel_rfl
theorem E18 (n : Nat) (os : List SO) : qd prg (n + 1) 18 [] os = X18 (qd prg n) (n + 1) os.length os := by kernel_rfl
theorem U18 {Q : SV → List SO → Prop} {os : List SO} {nl : Nat} (hnl : os.length = nl) (h : Ev (fun n => B18 (qd prg n) (n + 1) nl os) Q) : Ev (fun n => qd prg n 18 [] os) Q := by subst hnl; exact qQ (fun n => (E18 n _).trans (X18_s _ _ _ _)) h
theorem X19_s (K : zKT) (N nl : Nat) (x0 : SV) (os : List SO) : X19 K N nl x0 os = B19 K N nl x0 os := by kernel_rfl
theorem E19 (n : Nat) (x0 : SV) (os : List SO) : qd prg (n + 1) 19 [x0] os = X19 (qd prg n) (n + 1) os.length x0 os := by kernel_rfl
theorem U19 {Q : SV → List SO → Prop} {x0 : SV} {os : List SO} {nl : Nat} (hnl : os.length = nl) (h : Ev (fun n => B19 (qd prg n) (n + 1) nl x0 os) Q) : Ev (fun n => qd prg n 19 [x0] os) Q := by subst hnl; exact qQ (fun n => (E19 n _ _).trans (X19_s _ _ _ _ _)) h
theorem qjC (K : zKT) (N nl : Nat) (m4 : Nat) (x0 x1 x5 : SV) (os : List SO) : qaS K N nl (m4 + 1) x0 x1 x5 os = qdB K N nl m4 x0 x1 x5 os := by kernel_rfl
theorem UL20_4 {nl c : Nat} {Q : SV → List SO → Prop} {x0 x1 x5 : SV} {os : List SO} (h : Ev (fun n => qdB (qd prg n) (n + 1) nl (n + 1 - (c + 1)) x0 x1 x5 os) Q) : Ev (fun n => qaS (qd prg n) (n + 1) nl (n + 1 - c) x0 x1 x5 os) Q := zb (L := fun n m => qaS (qd prg n) (n + 1) nl m x0 x1 x5 os) (fun n m => qjC _ _ _ _ _ _ _ _) h
theorem X20_s (K : zKT) (N nl : Nat) (x0 x1 : SV) (os : List SO) : X20 K N nl x0 x1 os = B20 K N nl x0 x1 os := by kernel_rfl
theorem E20 (n : Nat) (x0 x1 : SV) (os : List SO) : qd prg (n + 1) 20 [x0, x1] os = X20 (qd prg n) (n + 1) os.length x0 x1 os := by kernel_rfl
theorem U20 {Q : SV → List SO → Prop} {x0 x1 : SV} {os : List SO} {nl : Nat} (hnl : os.length = nl) (h : Ev (fun n => B20 (qd prg n) (n + 1) nl x0 x1 os) Q) : Ev (fun n => qd prg n 20 [x0, x1] os) Q := by subst hnl; exact qQ (fun n => (E20 n _ _ _).trans (X20_s _ _ _ _ _ _)) h
theorem qjD (K : zKT) (N nl : Nat) (m5 : Nat) (x3 x13 x14 x15 : SV) (os : List SO) : Wi K N nl (m5 + 1) x3 x13 x14 x15 os = gcB nl [x3, x13, x14, x15] os fun xs os => qaT K N nl m5 xs os := by kernel_rfl
theorem qer {nl c : Nat} {Q : SV → List SO → Prop} {x3 x13 x14 x15 : SV} {os : List SO} (h : Ev (fun n => gcB nl [x3, x13, x14, x15] os fun xs os => qaT (qd prg n) (n + 1) nl (n + 1 - (c + 1)) xs os) Q) : Ev (fun n => Wi (qd prg n) (n + 1) nl (n + 1 - c) x3 x13 x14 x15 os) Q := zb (L := fun n m => Wi (qd prg n) (n + 1) nl m x3 x13 x14 x15 os) (fun n m => qjD _ _ _ _ _ _ _ _ _) h
theorem qii {nl : Nat} {Q : SV → List SO → Prop} {x3 x13 x14 x15 : SV} {os : List SO} (h : Ev (fun n => gcB nl [x3, x13, x14, x15] os fun xs os => qaT (qd prg n) (n + 1) nl (n + 1 - 1) xs os) Q) : Ev (fun n => Wi (qd prg n) (n + 1) nl (n + 1) x3 x13 x14 x15 os) Q := qer (c := 0) h
theorem qjE (K : zKT) (N nl : Nat) (m5 : Nat) (x3 x13 x14 x15 : SV) (os : List SO) : qaT K N nl m5 [x3, x13, x14, x15] os = qdC K N nl m5 x3 x13 x14 x15 os := by kernel_rfl
theorem UG21_5 {nl : Nat} {Q : SV → List SO → Prop} (m5 : Nat → Nat) {x3 x13 x14 x15 : SV} {os : List SO} (h : Ev (fun n => qdC (qd prg n) (n + 1) nl (m5 n) x3 x13 x14 x15 os) Q) : Ev (fun n => qaT (qd prg n) (n + 1) nl (m5 n) [x3, x13, x14, x15] os) Q := zV (fun n => qjE _ _ _ _ _ _ _ _ _) h
theorem qjF (K : zKT) (N nl : Nat) (m5 : Nat) (m8 : Nat) (x3 x13 x14 x15 x20 x21 x22 : SV) (os : List SO) : qaU K N nl m5 (m8 + 1) x3 x13 x14 x15 x20 x21 x22 os = gcB nl [x3, x13, x14, x15, x20, x21, x22] os fun xs os => qaV K N nl m5 m8 xs os := by kernel_rfl
theorem qes {nl c : Nat} {Q : SV → List SO → Prop} {m5 : Nat → Nat} {x3 x13 x14 x15 x20 x21 x22 : SV} {os : List SO} (h : Ev (fun n => gcB nl [x3, x13, x14, x15, x20, x21, x22] os fun xs os => qaV (qd prg n) (n + 1) nl (m5 n) (n + 1 - (c + 1)) xs os) Q) : Ev (fun n => qaU (qd prg n) (n + 1) nl (m5 n) (n + 1 - c) x3 x13 x14 x15 x20 x21 x22 os) Q := zb (L := fun n m => qaU (qd prg n) (n + 1) nl (m5 n) m x3 x13 x14 x15 x20 x21 x22 os) (fun n m => qjF _ _ _ _ _ _ _ _ _ _ _ _ _) h
theorem qij {nl : Nat} {Q : SV → List SO → Prop} {m5 : Nat → Nat} {x3 x13 x14 x15 x20 x21 x22 : SV} {os : List SO} (h : Ev (fun n => gcB nl [x3, x13, x14, x15, x20, x21, x22] os fun xs os => qaV (qd prg n) (n + 1) nl (m5 n) (n + 1 - 1) xs os) Q) : Ev (fun n => qaU (qd prg n) (n + 1) nl (m5 n) (n + 1) x3 x13 x14 x15 x20 x21 x22 os) Q := qes (c := 0) h
theorem qjG (K : zKT) (N nl : Nat) (m5 : Nat) (m8 : Nat) (x3 x13 x14 x15 x20 x21 x22 : SV) (os : List SO) : qaV K N nl m5 m8 [x3, x13, x14, x15, x20, x21, x22] os = qdD K N nl m5 m8 x3 x13 x14 x15 x20 x21 x22 os := by kernel_rfl
theorem UG21_8 {nl : Nat} {Q : SV → List SO → Prop} {m5 : Nat → Nat} (m8 : Nat → Nat) {x3 x13 x14 x15 x20 x21 x22 : SV} {os : List SO} (h : Ev (fun n => qdD (qd prg n) (n + 1) nl (m5 n) (m8 n) x3 x13 x14 x15 x20 x21 x22 os) Q) : Ev (fun n => qaV (qd prg n) (n + 1) nl (m5 n) (m8 n) [x3, x13, x14, x15, x20, x21, x22] os) Q := zV (fun n => qjG _ _ _ _ _ _ _ _ _ _ _ _ _) h
theorem X21_s (K : zKT) (N nl : Nat) (x0 : SV) (os : List SO) : X21 K N nl x0 os = B21 K N nl x0 os := by kernel_rfl
theorem E21 (n : Nat) (x0 : SV) (os : List SO) : qd prg (n + 1) 21 [x0] os = X21 (qd prg n) (n + 1) os.length x0 os := by kernel_rfl
theorem U21 {Q : SV → List SO → Prop} {x0 : SV} {os : List SO} {nl : Nat} (hnl : os.length = nl) (h : Ev (fun n => B21 (qd prg n) (n + 1) nl x0 os) Q) : Ev (fun n => qd prg n 21 [x0] os) Q := by subst hnl; exact qQ (fun n => (E21 n _ _).trans (X21_s _ _ _ _ _)) h
theorem X22_s (K : zKT) (N nl : Nat) (x0 : SV) (os : List SO) : X22 K N nl x0 os = B22 K N nl x0 os := by kernel_rfl
theorem E22 (n : Nat) (x0 : SV) (os : List SO) : qd prg (n + 1) 22 [x0] os = X22 (qd prg n) (n + 1) os.length x0 os := by kernel_rfl
theorem U22 {Q : SV → List SO → Prop} {x0 : SV} {os : List SO} {nl : Nat} (hnl : os.length = nl) (h : Ev (fun n => B22 (qd prg n) (n + 1) nl x0 os) Q) : Ev (fun n => qd prg n 22 [x0] os) Q := by subst hnl; exact qQ (fun n => (E22 n _ _).trans (X22_s _ _ _ _ _)) h
theorem X23_s (K : zKT) (N nl : Nat) (x0 x1 : SV) (os : List SO) : X23 K N nl x0 x1 os = B23 K N nl x0 x1 os := by kernel_rfl
theorem E23 (n : Nat) (x0 x1 : SV) (os : List SO) : qd prg (n + 1) 23 [x0, x1] os = X23 (qd prg n) (n + 1) os.length x0 x1 os := by kernel_rfl
theorem U23 {Q : SV → List SO → Prop} {x0 x1 : SV} {os : List SO} {nl : Nat} (hnl : os.length = nl) (h : Ev (fun n => B23 (qd prg n) (n + 1) nl x0 x1 os) Q) : Ev (fun n => qd prg n 23 [x0, x1] os) Q := by subst hnl; exact qQ (fun n => (E23 n _ _ _).trans (X23_s _ _ _ _ _ _)) h
theorem X24_s (K : zKT) (N nl : Nat) (x0 x1 : SV) (os : List SO) : X24 K N nl x0 x1 os = B24 K N nl x0 x1 os := by kernel_rfl
theorem E24 (n : Nat) (x0 x1 : SV) (os : List SO) : qd prg (n + 1) 24 [x0, x1] os = X24 (qd prg n) (n + 1) os.length x0 x1 os := by kernel_rfl
theorem U24 {Q : SV → List SO → Prop} {x0 x1 : SV} {os : List SO} {nl : Nat} (hnl : os.length = nl) (h : Ev (fun n => B24 (qd prg n) (n + 1) nl x0 x1 os) Q) : Ev (fun n => qd prg n 24 [x0, x1] os) Q := by subst hnl; exact qQ (fun n => (E24 n _ _ _).trans (X24_s _ _ _ _ _ _)) h
theorem X25_s (K : zKT) (N nl : Nat) (x0 x1 : SV) (os : List SO) : X25 K N nl x0 x1 os = B25 K N nl x0 x1 os := by kernel_rfl
theorem E25 (n : Nat) (x0 x1 : SV) (os : List SO) : qd prg (n + 1) 25 [x0, x1] os = X25 (qd prg n) (n + 1) os.length x0 x1 os := by kernel_rfl
theorem U25 {Q : SV → List SO → Prop} {x0 x1 : SV} {os : List SO} {nl : Nat} (hnl : os.length = nl) (h : Ev (fun n => B25 (qd prg n) (n + 1) nl x0 x1 os) Q) : Ev (fun n => qd prg n 25 [x0, x1] os) Q := by subst hnl; exact qQ (fun n => (E25 n _ _ _).trans (X25_s _ _ _ _ _ _)) h
theorem qjH (K : zKT) (N nl : Nat) (m4 : Nat) (x0 x1 x5 : SV) (os : List SO) : qaW K N nl (m4 + 1) x0 x1 x5 os = qdE K N nl m4 x0 x1 x5 os := by kernel_rfl
theorem UL26_4 {nl c : Nat} {Q : SV → List SO → Prop} {x0 x1 x5 : SV} {os : List SO} (h : Ev (fun n => qdE (qd prg n) (n + 1) nl (n + 1 - (c + 1)) x0 x1 x5 os) Q) : Ev (fun n => qaW (qd prg n) (n + 1) nl (n + 1 - c) x0 x1 x5 os) Q := zb (L := fun n m => qaW (qd prg n) (n + 1) nl m x0 x1 x5 os) (fun n m => qjH _ _ _ _ _ _ _ _) h
theorem X26_s (K : zKT) (N nl : Nat) (x0 x1 : SV) (os : List SO) : X26 K N nl x0 x1 os = B26 K N nl x0 x1 os := by kernel_rfl
theorem E26 (n : Nat) (x0 x1 : SV) (os : List SO) : qd prg (n + 1) 26 [x0, x1] os = X26 (qd prg n) (n + 1) os.length x0 x1 os := by kernel_rfl
theorem U26 {Q : SV → List SO → Prop} {x0 x1 : SV} {os : List SO} {nl : Nat} (hnl : os.length = nl) (h : Ev (fun n => B26 (qd prg n) (n + 1) nl x0 x1 os) Q) : Ev (fun n => qd prg n 26 [x0, x1] os) Q := by subst hnl; exact qQ (fun n => (E26 n _ _ _).trans (X26_s _ _ _ _ _ _)) h
theorem qjI (K : zKT) (N nl : Nat) (m2 : Nat) (x1 x3 : SV) (os : List SO) : qaX K N nl (m2 + 1) x1 x3 os = qdF K N nl m2 x1 x3 os := by kernel_rfl
theorem UL27_2 {nl c : Nat} {Q : SV → List SO → Prop} {x1 x3 : SV} {os : List SO} (h : Ev (fun n => qdF (qd prg n) (n + 1) nl (n + 1 - (c + 1)) x1 x3 os) Q) : Ev (fun n => qaX (qd prg n) (n + 1) nl (n + 1 - c) x1 x3 os) Q := zb (L := fun n m => qaX (qd prg n) (n + 1) nl m x1 x3 os) (fun n m => qjI _ _ _ _ _ _ _) h
theorem X27_s (K : zKT) (N nl : Nat) (x0 : SV) (os : List SO) : X27 K N nl x0 os = B27 K N nl x0 os := by kernel_rfl
theorem E27 (n : Nat) (x0 : SV) (os : List SO) : qd prg (n + 1) 27 [x0] os = X27 (qd prg n) (n + 1) os.length x0 os := by kernel_rfl
theorem U27 {Q : SV → List SO → Prop} {x0 : SV} {os : List SO} {nl : Nat} (hnl : os.length = nl) (h : Ev (fun n => B27 (qd prg n) (n + 1) nl x0 os) Q) : Ev (fun n => qd prg n 27 [x0] os) Q := by subst hnl; exact qQ (fun n => (E27 n _ _).trans (X27_s _ _ _ _ _)) h
theorem X28_s (K : zKT) (N nl : Nat) (x0 x1 : SV) (os : List SO) : X28 K N nl x0 x1 os = B28 K N nl x0 x1 os := by kernel_rfl
theorem E28 (n : Nat) (x0 x1 : SV) (os : List SO) : qd prg (n + 1) 28 [x0, x1] os = X28 (qd prg n) (n + 1) os.length x0 x1 os := by kernel_rfl
theorem U28 {Q : SV → List SO → Prop} {x0 x1 : SV} {os : List SO} {nl : Nat} (hnl : os.length = nl) (h : Ev (fun n => B28 (qd prg n) (n + 1) nl x0 x1 os) Q) : Ev (fun n => qd prg n 28 [x0, x1] os) Q := by subst hnl; exact qQ (fun n => (E28 n _ _ _).trans (X28_s _ _ _ _ _ _)) h
theorem X29_s (K : zKT) (N nl : Nat) (x0 : SV) (os : List SO) : X29 K N nl x0 os = B29 K N nl x0 os := by kernel_rfl
theorem E29 (n : Nat) (x0 : SV) (os : List SO) : qd prg (n + 1) 29 [x0] os = X29 (qd prg n) (n + 1) os.length x0 os := by kernel_rfl
theorem U29 {Q : SV → List SO → Prop} {x0 : SV} {os : List SO} {nl : Nat} (hnl : os.length = nl) (h : Ev (fun n => B29 (qd prg n) (n + 1) nl x0 os) Q) : Ev (fun n => qd prg n 29 [x0] os) Q := by subst hnl; exact qQ (fun n => (E29 n _ _).trans (X29_s _ _ _ _ _)) h
theorem X30_s (K : zKT) (N nl : Nat) (x0 x1 : SV) (os : List SO) : X30 K N nl x0 x1 os = B30 K N nl x0 x1 os := by kernel_rfl
theorem E30 (n : Nat) (x0 x1 : SV) (os : List SO) : qd prg (n + 1) 30 [x0, x1] os = X30 (qd prg n) (n + 1) os.length x0 x1 os := by kernel_rfl
theorem U30 {Q : SV → List SO → Prop} {x0 x1 : SV} {os : List SO} {nl : Nat} (hnl : os.length = nl) (h : Ev (fun n => B30 (qd prg n) (n + 1) nl x0 x1 os) Q) : Ev (fun n => qd prg n 30 [x0, x1] os) Q := by subst hnl; exact qQ (fun n => (E30 n _ _ _).trans (X30_s _ _ _ _ _ _)) h
theorem qjJ (K : zKT) (N nl : Nat) (m4 : Nat) (x2 x3 x4 x6 : SV) (os : List SO) : qaY K N nl (m4 + 1) x2 x3 x4 x6 os = gcB nl [x2, x3, x4, x6] os fun xs os => qaZ K N nl m4 xs os := by kernel_rfl
theorem qet {nl c : Nat} {Q : SV → List SO → Prop} {x2 x3 x4 x6 : SV} {os : List SO} (h : Ev (fun n => gcB nl [x2, x3, x4, x6] os fun xs os => qaZ (qd prg n) (n + 1) nl (n + 1 - (c + 1)) xs os) Q) : Ev (fun n => qaY (qd prg n) (n + 1) nl (n + 1 - c) x2 x3 x4 x6 os) Q := zb (L := fun n m => qaY (qd prg n) (n + 1) nl m x2 x3 x4 x6 os) (fun n m => qjJ _ _ _ _ _ _ _ _ _) h
theorem qik {nl : Nat} {Q : SV → List SO → Prop} {x2 x3 x4 x6 : SV} {os : List SO} (h : Ev (fun n => gcB nl [x2, x3, x4, x6] os fun xs os => qaZ (qd prg n) (n + 1) nl (n + 1 - 1) xs os) Q) : Ev (fun n => qaY (qd prg n) (n + 1) nl (n + 1) x2 x3 x4 x6 os) Q := qet (c := 0) h
theorem qjK (K : zKT) (N nl : Nat) (m4 : Nat) (x2 x3 x4 x6 : SV) (os : List SO) : qaZ K N nl m4 [x2, x3, x4, x6] os = qdG K N nl m4 x2 x3 x4 x6 os := by kernel_rfl
theorem UG31_4 {nl : Nat} {Q : SV → List SO → Prop} (m4 : Nat → Nat) {x2 x3 x4 x6 : SV} {os : List SO} (h : Ev (fun n => qdG (qd prg n) (n + 1) nl (m4 n) x2 x3 x4 x6 os) Q) : Ev (fun n => qaZ (qd prg n) (n + 1) nl (m4 n) [x2, x3, x4, x6] os) Q := zV (fun n => qjK _ _ _ _ _ _ _ _ _) h
theorem X31_s (K : zKT) (N nl : Nat) (x0 : SV) (os : List SO) : X31 K N nl x0 os = B31 K N nl x0 os := by kernel_rfl
theorem E31 (n : Nat) (x0 : SV) (os : List SO) : qd prg (n + 1) 31 [x0] os = X31 (qd prg n) (n + 1) os.length x0 os := by kernel_rfl
theorem U31 {Q : SV → List SO → Prop} {x0 : SV} {os : List SO} {nl : Nat} (hnl : os.length = nl) (h : Ev (fun n => B31 (qd prg n) (n + 1) nl x0 os) Q) : Ev (fun n => qd prg n 31 [x0] os) Q := by subst hnl; exact qQ (fun n => (E31 n _ _).trans (X31_s _ _ _ _ _)) h
theorem X32_s (K : zKT) (N nl : Nat) (x0 : SV) (os : List SO) : X32 K N nl x0 os = B32 K N nl x0 os := by kernel_rfl
theorem E32 (n : Nat) (x0 : SV) (os : List SO) : qd prg (n + 1) 32 [x0] os = X32 (qd prg n) (n + 1) os.length x0 os := by kernel_rfl
theorem U32 {Q : SV → List SO → Prop} {x0 : SV} {os : List SO} {nl : Nat} (hnl : os.length = nl) (h : Ev (fun n => B32 (qd prg n) (n + 1) nl x0 os) Q) : Ev (fun n => qd prg n 32 [x0] os) Q := by subst hnl; exact qQ (fun n => (E32 n _ _).trans (X32_s _ _ _ _ _)) h
theorem X33_s (K : zKT) (N nl : Nat) (x0 : SV) (os : List SO) : X33 K N nl x0 os = B33 K N nl x0 os := by kernel_rfl
theorem E33 (n : Nat) (x0 : SV) (os : List SO) : qd prg (n + 1) 33 [x0] os = X33 (qd prg n) (n + 1) os.length x0 os := by kernel_rfl
theorem U33 {Q : SV → List SO → Prop} {x0 : SV} {os : List SO} {nl : Nat} (hnl : os.length = nl) (h : Ev (fun n => B33 (qd prg n) (n + 1) nl x0 os) Q) : Ev (fun n => qd prg n 33 [x0] os) Q := by subst hnl; exact qQ (fun n => (E33 n _ _).trans (X33_s _ _ _ _ _)) h
theorem qjL (K : zKT) (N nl : Nat) (x2 x6 x7 x8 x9 : SV) (os : List SO) : qgv K N nl x2 x6 x7 x8 x9 os = qdH K N nl x2 x6 x7 x8 x9 os := by kernel_rfl
theorem UJ34_6 {nl : Nat} {Q : SV → List SO → Prop} {x2 x6 x7 x8 x9 : SV} {os : List SO} (h : Ev (fun n => qdH (qd prg n) (n + 1) nl x2 x6 x7 x8 x9 os) Q) : Ev (fun n => qgv (qd prg n) (n + 1) nl x2 x6 x7 x8 x9 os) Q := zV (fun n => qjL _ _ _ _ _ _ _ _ _) h
theorem qjM (K : zKT) (N nl : Nat) (x2 x6 x7 x9 : SV) (os : List SO) : qgw K N nl x2 x6 x7 x9 os = qdI K N nl x2 x6 x7 x9 os := by kernel_rfl
theorem UJ34_8 {nl : Nat} {Q : SV → List SO → Prop} {x2 x6 x7 x9 : SV} {os : List SO} (h : Ev (fun n => qdI (qd prg n) (n + 1) nl x2 x6 x7 x9 os) Q) : Ev (fun n => qgw (qd prg n) (n + 1) nl x2 x6 x7 x9 os) Q := zV (fun n => qjM _ _ _ _ _ _ _ _) h
theorem X34_s (K : zKT) (N nl : Nat) (x0 : SV) (os : List SO) : X34 K N nl x0 os = B34 K N nl x0 os := by kernel_rfl
theorem E34 (n : Nat) (x0 : SV) (os : List SO) : qd prg (n + 1) 34 [x0] os = X34 (qd prg n) (n + 1) os.length x0 os := by kernel_rfl
theorem U34 {Q : SV → List SO → Prop} {x0 : SV} {os : List SO} {nl : Nat} (hnl : os.length = nl) (h : Ev (fun n => B34 (qd prg n) (n + 1) nl x0 os) Q) : Ev (fun n => qd prg n 34 [x0] os) Q := by subst hnl; exact qQ (fun n => (E34 n _ _).trans (X34_s _ _ _ _ _)) h
theorem qjN (K : zKT) (N nl : Nat) (m2 : Nat) (x1 x2 x3 x4 x8 x10 : SV) (os : List SO) : qa0 K N nl (m2 + 1) x1 x2 x3 x4 x8 x10 os = gcB nl [x1, x2, x3, x4, x8, x10] os fun xs os => qa1 K N nl m2 xs os := by kernel_rfl
theorem qeu {nl c : Nat} {Q : SV → List SO → Prop} {x1 x2 x3 x4 x8 x10 : SV} {os : List SO} (h : Ev (fun n => gcB nl [x1, x2, x3, x4, x8, x10] os fun xs os => qa1 (qd prg n) (n + 1) nl (n + 1 - (c + 1)) xs os) Q) : Ev (fun n => qa0 (qd prg n) (n + 1) nl (n + 1 - c) x1 x2 x3 x4 x8 x10 os) Q := zb (L := fun n m => qa0 (qd prg n) (n + 1) nl m x1 x2 x3 x4 x8 x10 os) (fun n m => qjN _ _ _ _ _ _ _ _ _ _ _) h
theorem qil {nl : Nat} {Q : SV → List SO → Prop} {x1 x2 x3 x4 x8 x10 : SV} {os : List SO} (h : Ev (fun n => gcB nl [x1, x2, x3, x4, x8, x10] os fun xs os => qa1 (qd prg n) (n + 1) nl (n + 1 - 1) xs os) Q) : Ev (fun n => qa0 (qd prg n) (n + 1) nl (n + 1) x1 x2 x3 x4 x8 x10 os) Q := qeu (c := 0) h
theorem qjO (K : zKT) (N nl : Nat) (m2 : Nat) (x1 x2 x3 x4 x8 x10 : SV) (os : List SO) : qa1 K N nl m2 [x1, x2, x3, x4, x8, x10] os = Ki K N nl m2 x1 x2 x3 x4 x8 x10 os := by kernel_rfl
theorem J8 {nl : Nat} {Q : SV → List SO → Prop} (m2 : Nat → Nat) {x1 x2 x3 x4 x8 x10 : SV} {os : List SO} (h : Ev (fun n => Ki (qd prg n) (n + 1) nl (m2 n) x1 x2 x3 x4 x8 x10 os) Q) : Ev (fun n => qa1 (qd prg n) (n + 1) nl (m2 n) [x1, x2, x3, x4, x8, x10] os) Q := zV (fun n => qjO _ _ _ _ _ _ _ _ _ _ _) h
theorem X35_s (K : zKT) (N nl : Nat) (x0 x1 x2 x3 : SV) (os : List SO) : X35 K N nl x0 x1 x2 x3 os = B35 K N nl x0 x1 x2 x3 os := by kernel_rfl
theorem E35 (n : Nat) (x0 x1 x2 x3 : SV) (os : List SO) : qd prg (n + 1) 35 [x0, x1, x2, x3] os = X35 (qd prg n) (n + 1) os.length x0 x1 x2 x3 os := by kernel_rfl
theorem U35 {Q : SV → List SO → Prop} {x0 x1 x2 x3 : SV} {os : List SO} {nl : Nat} (hnl : os.length = nl) (h : Ev (fun n => B35 (qd prg n) (n + 1) nl x0 x1 x2 x3 os) Q) : Ev (fun n => qd prg n 35 [x0, x1, x2, x3] os) Q := by subst hnl; exact qQ (fun n => (E35 n _ _ _ _ _).trans (X35_s _ _ _ _ _ _ _ _)) h
theorem qjP (K : zKT) (N nl : Nat) (m6 : Nat) (x1 x2 x3 x8 x10 x33 x34 x35 : SV) (os : List SO) : qa2 K N nl (m6 + 1) x1 x2 x3 x8 x10 x33 x34 x35 os = gcB nl [x1, x2, x3, x8, x10, x33, x34, x35] os fun xs os => qa3 K N nl m6 xs os := by kernel_rfl
theorem qev {nl c : Nat} {Q : SV → List SO → Prop} {x1 x2 x3 x8 x10 x33 x34 x35 : SV} {os : List SO} (h : Ev (fun n => gcB nl [x1, x2, x3, x8, x10, x33, x34, x35] os fun xs os => qa3 (qd prg n) (n + 1) nl (n + 1 - (c + 1)) xs os) Q) : Ev (fun n => qa2 (qd prg n) (n + 1) nl (n + 1 - c) x1 x2 x3 x8 x10 x33 x34 x35 os) Q := zb (L := fun n m => qa2 (qd prg n) (n + 1) nl m x1 x2 x3 x8 x10 x33 x34 x35 os) (fun n m => qjP _ _ _ _ _ _ _ _ _ _ _ _ _) h
theorem qim {nl : Nat} {Q : SV → List SO → Prop} {x1 x2 x3 x8 x10 x33 x34 x35 : SV} {os : List SO} (h : Ev (fun n => gcB nl [x1, x2, x3, x8, x10, x33, x34, x35] os fun xs os => qa3 (qd prg n) (n + 1) nl (n + 1 - 1) xs os) Q) : Ev (fun n => qa2 (qd prg n) (n + 1) nl (n + 1) x1 x2 x3 x8 x10 x33 x34 x35 os) Q := qev (c := 0) h
theorem qjQ (K : zKT) (N nl : Nat) (m6 : Nat) (x1 x2 x3 x8 x10 x33 x34 x35 : SV) (os : List SO) : qa3 K N nl m6 [x1, x2, x3, x8, x10, x33, x34, x35] os = qdJ K N nl m6 x1 x2 x3 x8 x10 x33 x34 x35 os := by kernel_rfl
theorem UG36_6 {nl : Nat} {Q : SV → List SO → Prop} (m6 : Nat → Nat) {x1 x2 x3 x8 x10 x33 x34 x35 : SV} {os : List SO} (h : Ev (fun n => qdJ (qd prg n) (n + 1) nl (m6 n) x1 x2 x3 x8 x10 x33 x34 x35 os) Q) : Ev (fun n => qa3 (qd prg n) (n + 1) nl (m6 n) [x1, x2, x3, x8, x10, x33, x34, x35] os) Q := zV (fun n => qjQ _ _ _ _ _ _ _ _ _ _ _ _ _) h
theorem qgS (K : zKT) (N nl : Nat) (x8 x10 : SV) (os : List SO) : JY K N nl x8 x10 os = Xu K N nl x8 x10 os := by kernel_rfl
theorem qjR {nl : Nat} {Q : SV → List SO → Prop} {x8 x10 : SV} {os : List SO} (h : Ev (fun n => Xu (qd prg n) (n + 1) nl x8 x10 os) Q) : Ev (fun n => JY (qd prg n) (n + 1) nl x8 x10 os) Q := zV (fun n => qgS _ _ _ _ _ _) h
theorem X36_s (K : zKT) (N nl : Nat) (x0 x1 x2 x3 : SV) (os : List SO) : X36 K N nl x0 x1 x2 x3 os = B36 K N nl x0 x1 x2 x3 os := by kernel_rfl
theorem E36 (n : Nat) (x0 x1 x2 x3 : SV) (os : List SO) : qd prg (n + 1) 36 [x0, x1, x2, x3] os = X36 (qd prg n) (n + 1) os.length x0 x1 x2 x3 os := by kernel_rfl
theorem U36 {Q : SV → List SO → Prop} {x0 x1 x2 x3 : SV} {os : List SO} {nl : Nat} (hnl : os.length = nl) (h : Ev (fun n => B36 (qd prg n) (n + 1) nl x0 x1 x2 x3 os) Q) : Ev (fun n => qd prg n 36 [x0, x1, x2, x3] os) Q := by subst hnl; exact qQ (fun n => (E36 n _ _ _ _ _).trans (X36_s _ _ _ _ _ _ _ _)) h
theorem qjS (K : zKT) (N nl : Nat) (x2 x4 x5 x6 : SV) (os : List SO) : qgx K N nl x2 x4 x5 x6 os = qdK K N nl x2 x4 x5 x6 os := by kernel_rfl
theorem UJ37_5 {nl : Nat} {Q : SV → List SO → Prop} {x2 x4 x5 x6 : SV} {os : List SO} (h : Ev (fun n => qdK (qd prg n) (n + 1) nl x2 x4 x5 x6 os) Q) : Ev (fun n => qgx (qd prg n) (n + 1) nl x2 x4 x5 x6 os) Q := zV (fun n => qjS _ _ _ _ _ _ _ _) h
theorem qjT (K : zKT) (N nl : Nat) (x2 x5 x6 : SV) (os : List SO) : qgy K N nl x2 x5 x6 os = qdL K N nl x2 x5 x6 os := by kernel_rfl
theorem UJ37_7 {nl : Nat} {Q : SV → List SO → Prop} {x2 x5 x6 : SV} {os : List SO} (h : Ev (fun n => qdL (qd prg n) (n + 1) nl x2 x5 x6 os) Q) : Ev (fun n => qgy (qd prg n) (n + 1) nl x2 x5 x6 os) Q := zV (fun n => qjT _ _ _ _ _ _ _) h
theorem X37_s (K : zKT) (N nl : Nat) (x0 : SV) (os : List SO) : X37 K N nl x0 os = B37 K N nl x0 os := by kernel_rfl
theorem E37 (n : Nat) (x0 : SV) (os : List SO) : qd prg (n + 1) 37 [x0] os = X37 (qd prg n) (n + 1) os.length x0 os := by kernel_rfl
theorem U37 {Q : SV → List SO → Prop} {x0 : SV} {os : List SO} {nl : Nat} (hnl : os.length = nl) (h : Ev (fun n => B37 (qd prg n) (n + 1) nl x0 os) Q) : Ev (fun n => qd prg n 37 [x0] os) Q := by subst hnl; exact qQ (fun n => (E37 n _ _).trans (X37_s _ _ _ _ _)) h
theorem X38_s (K : zKT) (N nl : Nat) (x0 x1 : SV) (os : List SO) : X38 K N nl x0 x1 os = B38 K N nl x0 x1 os := by kernel_rfl
theorem E38 (n : Nat) (x0 x1 : SV) (os : List SO) : qd prg (n + 1) 38 [x0, x1] os = X38 (qd prg n) (n + 1) os.length x0 x1 os := by kernel_rfl
theorem U38 {Q : SV → List SO → Prop} {x0 x1 : SV} {os : List SO} {nl : Nat} (hnl : os.length = nl) (h : Ev (fun n => B38 (qd prg n) (n + 1) nl x0 x1 os) Q) : Ev (fun n => qd prg n 38 [x0, x1] os) Q := by subst hnl; exact qQ (fun n => (E38 n _ _ _).trans (X38_s _ _ _ _ _ _)) h
theorem X39_s (K : zKT) (N nl : Nat) (x0 x1 : SV) (os : List SO) : X39 K N nl x0 x1 os = B39 K N nl x0 x1 os := by kernel_rfl
theorem E39 (n : Nat) (x0 x1 : SV) (os : List SO) : qd prg (n + 1) 39 [x0, x1] os = X39 (qd prg n) (n + 1) os.length x0 x1 os := by kernel_rfl
theorem U39 {Q : SV → List SO → Prop} {x0 x1 : SV} {os : List SO} {nl : Nat} (hnl : os.length = nl) (h : Ev (fun n => B39 (qd prg n) (n + 1) nl x0 x1 os) Q) : Ev (fun n => qd prg n 39 [x0, x1] os) Q := by subst hnl; exact qQ (fun n => (E39 n _ _ _).trans (X39_s _ _ _ _ _ _)) h
theorem X40_s (K : zKT) (N nl : Nat) (x0 : SV) (os : List SO) : X40 K N nl x0 os = B40 K N nl x0 os := by kernel_rfl
theorem E40 (n : Nat) (x0 : SV) (os : List SO) : qd prg (n + 1) 40 [x0] os = X40 (qd prg n) (n + 1) os.length x0 os := by kernel_rfl
theorem U40 {Q : SV → List SO → Prop} {x0 : SV} {os : List SO} {nl : Nat} (hnl : os.length = nl) (h : Ev (fun n => B40 (qd prg n) (n + 1) nl x0 os) Q) : Ev (fun n => qd prg n 40 [x0] os) Q := by subst hnl; exact qQ (fun n => (E40 n _ _).trans (X40_s _ _ _ _ _)) h
theorem qjU (K : zKT) (N nl : Nat) (x0 : SV) (os : List SO) : qgz K N nl x0 os = qdM K N nl x0 os := by kernel_rfl
theorem UJ41_3 {nl : Nat} {Q : SV → List SO → Prop} {x0 : SV} {os : List SO} (h : Ev (fun n => qdM (qd prg n) (n + 1) nl x0 os) Q) : Ev (fun n => qgz (qd prg n) (n + 1) nl x0 os) Q := zV (fun n => qjU _ _ _ _ _) h
theorem X41_s (K : zKT) (N nl : Nat) (x0 : SV) (os : List SO) : X41 K N nl x0 os = B41 K N nl x0 os := by kernel_rfl
theorem E41 (n : Nat) (x0 : SV) (os : List SO) : qd prg (n + 1) 41 [x0] os = X41 (qd prg n) (n + 1) os.length x0 os := by kernel_rfl
theorem U41 {Q : SV → List SO → Prop} {x0 : SV} {os : List SO} {nl : Nat} (hnl : os.length = nl) (h : Ev (fun n => B41 (qd prg n) (n + 1) nl x0 os) Q) : Ev (fun n => qd prg n 41 [x0] os) Q := by subst hnl; exact qQ (fun n => (E41 n _ _).trans (X41_s _ _ _ _ _)) h
theorem qjV (K : zKT) (N nl : Nat) (x0 x2 x5 x6 : SV) (os : List SO) : qa4 K N nl x0 x2 x5 x6 os = JZ K N nl x0 x2 x5 x6 os := by kernel_rfl
theorem qin {nl : Nat} {Q : SV → List SO → Prop} {x0 x2 x5 x6 : SV} {os : List SO} (h : Ev (fun n => JZ (qd prg n) (n + 1) nl x0 x2 x5 x6 os) Q) : Ev (fun n => qa4 (qd prg n) (n + 1) nl x0 x2 x5 x6 os) Q := zV (fun n => qjV _ _ _ _ _ _ _ _) h
theorem qgT (K : zKT) (N nl : Nat) (x2 x5 x6 : SV) (os : List SO) : xO K N nl x2 x5 x6 os = wL K N nl x2 x5 x6 os := by kernel_rfl
theorem yx {nl : Nat} {Q : SV → List SO → Prop} {x2 x5 x6 : SV} {os : List SO} (h : Ev (fun n => wL (qd prg n) (n + 1) nl x2 x5 x6 os) Q) : Ev (fun n => xO (qd prg n) (n + 1) nl x2 x5 x6 os) Q := zV (fun n => qgT _ _ _ _ _ _ _) h
theorem X42_s (K : zKT) (N nl : Nat) (x0 : SV) (os : List SO) : X42 K N nl x0 os = B42 K N nl x0 os := by kernel_rfl
theorem E42 (n : Nat) (x0 : SV) (os : List SO) : qd prg (n + 1) 42 [x0] os = X42 (qd prg n) (n + 1) os.length x0 os := by kernel_rfl
theorem U42 {Q : SV → List SO → Prop} {x0 : SV} {os : List SO} {nl : Nat} (hnl : os.length = nl) (h : Ev (fun n => B42 (qd prg n) (n + 1) nl x0 os) Q) : Ev (fun n => qd prg n 42 [x0] os) Q := by subst hnl; exact qQ (fun n => (E42 n _ _).trans (X42_s _ _ _ _ _)) h
theorem X43_s (K : zKT) (N nl : Nat) (x0 x1 : SV) (os : List SO) : X43 K N nl x0 x1 os = B43 K N nl x0 x1 os := by kernel_rfl
theorem E43 (n : Nat) (x0 x1 : SV) (os : List SO) : qd prg (n + 1) 43 [x0, x1] os = X43 (qd prg n) (n + 1) os.length x0 x1 os := by kernel_rfl
theorem U43 {Q : SV → List SO → Prop} {x0 x1 : SV} {os : List SO} {nl : Nat} (hnl : os.length = nl) (h : Ev (fun n => B43 (qd prg n) (n + 1) nl x0 x1 os) Q) : Ev (fun n => qd prg n 43 [x0, x1] os) Q := by subst hnl; exact qQ (fun n => (E43 n _ _ _).trans (X43_s _ _ _ _ _ _)) h
theorem qjW (K : zKT) (N nl : Nat) (m2 : Nat) (x1 x2 x3 x4 x8 x9 : SV) (os : List SO) : qa5 K N nl (m2 + 1) x1 x2 x3 x4 x8 x9 os = gcB nl [x1, x2, x3, x4, x8, x9] os fun xs os => qa6 K N nl m2 xs os := by kernel_rfl
theorem qew {nl c : Nat} {Q : SV → List SO → Prop} {x1 x2 x3 x4 x8 x9 : SV} {os : List SO} (h : Ev (fun n => gcB nl [x1, x2, x3, x4, x8, x9] os fun xs os => qa6 (qd prg n) (n + 1) nl (n + 1 - (c + 1)) xs os) Q) : Ev (fun n => qa5 (qd prg n) (n + 1) nl (n + 1 - c) x1 x2 x3 x4 x8 x9 os) Q := zb (L := fun n m => qa5 (qd prg n) (n + 1) nl m x1 x2 x3 x4 x8 x9 os) (fun n m => qjW _ _ _ _ _ _ _ _ _ _ _) h
theorem qio {nl : Nat} {Q : SV → List SO → Prop} {x1 x2 x3 x4 x8 x9 : SV} {os : List SO} (h : Ev (fun n => gcB nl [x1, x2, x3, x4, x8, x9] os fun xs os => qa6 (qd prg n) (n + 1) nl (n + 1 - 1) xs os) Q) : Ev (fun n => qa5 (qd prg n) (n + 1) nl (n + 1) x1 x2 x3 x4 x8 x9 os) Q := qew (c := 0) h
theorem qjX (K : zKT) (N nl : Nat) (m2 : Nat) (x1 x2 x3 x4 x8 x9 : SV) (os : List SO) : qa6 K N nl m2 [x1, x2, x3, x4, x8, x9] os = qdN K N nl m2 x1 x2 x3 x4 x8 x9 os := by kernel_rfl
theorem UG44_2 {nl : Nat} {Q : SV → List SO → Prop} (m2 : Nat → Nat) {x1 x2 x3 x4 x8 x9 : SV} {os : List SO} (h : Ev (fun n => qdN (qd prg n) (n + 1) nl (m2 n) x1 x2 x3 x4 x8 x9 os) Q) : Ev (fun n => qa6 (qd prg n) (n + 1) nl (m2 n) [x1, x2, x3, x4, x8, x9] os) Q := zV (fun n => qjX _ _ _ _ _ _ _ _ _ _ _) h
theorem qjY (K : zKT) (N nl : Nat) (x4 x8 : SV) (os : List SO) : qgA K N nl x4 x8 os = qdO K N nl x4 x8 os := by kernel_rfl
theorem UJ44_7 {nl : Nat} {Q : SV → List SO → Prop} {x4 x8 : SV} {os : List SO} (h : Ev (fun n => qdO (qd prg n) (n + 1) nl x4 x8 os) Q) : Ev (fun n => qgA (qd prg n) (n + 1) nl x4 x8 os) Q := zV (fun n => qjY _ _ _ _ _ _) h
theorem X44_s (K : zKT) (N nl : Nat) (x0 x1 x2 x3 : SV) (os : List SO) : X44 K N nl x0 x1 x2 x3 os = B44 K N nl x0 x1 x2 x3 os := by kernel_rfl
theorem E44 (n : Nat) (x0 x1 x2 x3 : SV) (os : List SO) : qd prg (n + 1) 44 [x0, x1, x2, x3] os = X44 (qd prg n) (n + 1) os.length x0 x1 x2 x3 os := by kernel_rfl
theorem U44 {Q : SV → List SO → Prop} {x0 x1 x2 x3 : SV} {os : List SO} {nl : Nat} (hnl : os.length = nl) (h : Ev (fun n => B44 (qd prg n) (n + 1) nl x0 x1 x2 x3 os) Q) : Ev (fun n => qd prg n 44 [x0, x1, x2, x3] os) Q := by subst hnl; exact qQ (fun n => (E44 n _ _ _ _ _).trans (X44_s _ _ _ _ _ _ _ _)) h
theorem X45_s (K : zKT) (N nl : Nat) (x0 : SV) (os : List SO) : X45 K N nl x0 os = B45 K N nl x0 os := by kernel_rfl
theorem E45 (n : Nat) (x0 : SV) (os : List SO) : qd prg (n + 1) 45 [x0] os = X45 (qd prg n) (n + 1) os.length x0 os := by kernel_rfl
theorem U45 {Q : SV → List SO → Prop} {x0 : SV} {os : List SO} {nl : Nat} (hnl : os.length = nl) (h : Ev (fun n => B45 (qd prg n) (n + 1) nl x0 os) Q) : Ev (fun n => qd prg n 45 [x0] os) Q := by subst hnl; exact qQ (fun n => (E45 n _ _).trans (X45_s _ _ _ _ _)) h
theorem qjZ (K : zKT) (N nl : Nat) (m4 : Nat) (x0 x1 x12 x13 : SV) (os : List SO) : qa7 K N nl (m4 + 1) x0 x1 x12 x13 os = qdP K N nl m4 x0 x1 x12 x13 os := by kernel_rfl
theorem UL46_4 {nl c : Nat} {Q : SV → List SO → Prop} {x0 x1 x12 x13 : SV} {os : List SO} (h : Ev (fun n => qdP (qd prg n) (n + 1) nl (n + 1 - (c + 1)) x0 x1 x12 x13 os) Q) : Ev (fun n => qa7 (qd prg n) (n + 1) nl (n + 1 - c) x0 x1 x12 x13 os) Q := zb (L := fun n m => qa7 (qd prg n) (n + 1) nl m x0 x1 x12 x13 os) (fun n m => qjZ _ _ _ _ _ _ _ _ _) h
theorem X46_s (K : zKT) (N nl : Nat) (x0 x1 : SV) (os : List SO) : X46 K N nl x0 x1 os = B46 K N nl x0 x1 os := by kernel_rfl
theorem E46 (n : Nat) (x0 x1 : SV) (os : List SO) : qd prg (n + 1) 46 [x0, x1] os = X46 (qd prg n) (n + 1) os.length x0 x1 os := by kernel_rfl
theorem U46 {Q : SV → List SO → Prop} {x0 x1 : SV} {os : List SO} {nl : Nat} (hnl : os.length = nl) (h : Ev (fun n => B46 (qd prg n) (n + 1) nl x0 x1 os) Q) : Ev (fun n => qd prg n 46 [x0, x1] os) Q := by subst hnl; exact qQ (fun n => (E46 n _ _ _).trans (X46_s _ _ _ _ _ _)) h
theorem qj0 (K : zKT) (N nl : Nat) (m2 : Nat) (x0 x1 x5 : SV) (os : List SO) : qa8 K N nl (m2 + 1) x0 x1 x5 os = qdQ K N nl m2 x0 x1 x5 os := by kernel_rfl
theorem UL47_2 {nl c : Nat} {Q : SV → List SO → Prop} {x0 x1 x5 : SV} {os : List SO} (h : Ev (fun n => qdQ (qd prg n) (n + 1) nl (n + 1 - (c + 1)) x0 x1 x5 os) Q) : Ev (fun n => qa8 (qd prg n) (n + 1) nl (n + 1 - c) x0 x1 x5 os) Q := zb (L := fun n m => qa8 (qd prg n) (n + 1) nl m x0 x1 x5 os) (fun n m => qj0 _ _ _ _ _ _ _ _) h
theorem X47_s (K : zKT) (N nl : Nat) (x0 x1 : SV) (os : List SO) : X47 K N nl x0 x1 os = B47 K N nl x0 x1 os := by kernel_rfl
theorem E47 (n : Nat) (x0 x1 : SV) (os : List SO) : qd prg (n + 1) 47 [x0, x1] os = X47 (qd prg n) (n + 1) os.length x0 x1 os := by kernel_rfl
theorem U47 {Q : SV → List SO → Prop} {x0 x1 : SV} {os : List SO} {nl : Nat} (hnl : os.length = nl) (h : Ev (fun n => B47 (qd prg n) (n + 1) nl x0 x1 os) Q) : Ev (fun n => qd prg n 47 [x0, x1] os) Q := by subst hnl; exact qQ (fun n => (E47 n _ _ _).trans (X47_s _ _ _ _ _ _)) h
theorem qj1 (K : zKT) (N nl : Nat) (m3 : Nat) (x0 x3 x4 : SV) (os : List SO) : qa9 K N nl (m3 + 1) x0 x3 x4 os = J0 K N nl m3 x0 x3 x4 os := by kernel_rfl
theorem qip {nl c : Nat} {Q : SV → List SO → Prop} {x0 x3 x4 : SV} {os : List SO} (h : Ev (fun n => J0 (qd prg n) (n + 1) nl (n + 1 - (c + 1)) x0 x3 x4 os) Q) : Ev (fun n => qa9 (qd prg n) (n + 1) nl (n + 1 - c) x0 x3 x4 os) Q := zb (L := fun n m => qa9 (qd prg n) (n + 1) nl m x0 x3 x4 os) (fun n m => qj1 _ _ _ _ _ _ _ _) h
theorem VL48_3 {nl : Nat} {Q : SV → List SO → Prop} {x0 x3 x4 : SV} {os : List SO} (h : Ev (fun n => J0 (qd prg n) (n + 1) nl (n + 1 - 1) x0 x3 x4 os) Q) : Ev (fun n => qa9 (qd prg n) (n + 1) nl (n + 1) x0 x3 x4 os) Q := qip (c := 0) h
theorem qj2 (K : zKT) (N nl : Nat) (m7 : Nat) (x0 x3 x5 : SV) (os : List SO) : Yk K N nl (m7 + 1) x0 x3 x5 os = qdR K N nl m7 x0 x3 x5 os := by kernel_rfl
theorem UL48_7 {nl c : Nat} {Q : SV → List SO → Prop} {x0 x3 x5 : SV} {os : List SO} (h : Ev (fun n => qdR (qd prg n) (n + 1) nl (n + 1 - (c + 1)) x0 x3 x5 os) Q) : Ev (fun n => Yk (qd prg n) (n + 1) nl (n + 1 - c) x0 x3 x5 os) Q := zb (L := fun n m => Yk (qd prg n) (n + 1) nl m x0 x3 x5 os) (fun n m => qj2 _ _ _ _ _ _ _ _) h
theorem qgU (K : zKT) (N nl : Nat) (m7 : Nat) (m10 : Nat) (x0 x3 x5 x6 : SV) (os : List SO) : Kj K N nl m7 (m10 + 1) x0 x3 x5 x6 os = Xv K N nl m7 m10 x0 x3 x5 x6 os := by kernel_rfl
theorem qj3 {nl c : Nat} {Q : SV → List SO → Prop} {m7 : Nat → Nat} {x0 x3 x5 x6 : SV} {os : List SO} (h : Ev (fun n => Xv (qd prg n) (n + 1) nl (m7 n) (n + 1 - (c + 1)) x0 x3 x5 x6 os) Q) : Ev (fun n => Kj (qd prg n) (n + 1) nl (m7 n) (n + 1 - c) x0 x3 x5 x6 os) Q := zb (L := fun n m => Kj (qd prg n) (n + 1) nl (m7 n) m x0 x3 x5 x6 os) (fun n m => qgU _ _ _ _ _ _ _ _ _ _) h
theorem X48_s (K : zKT) (N nl : Nat) (x0 : SV) (os : List SO) : X48 K N nl x0 os = B48 K N nl x0 os := by kernel_rfl
theorem E48 (n : Nat) (x0 : SV) (os : List SO) : qd prg (n + 1) 48 [x0] os = X48 (qd prg n) (n + 1) os.length x0 os := by kernel_rfl
theorem U48 {Q : SV → List SO → Prop} {x0 : SV} {os : List SO} {nl : Nat} (hnl : os.length = nl) (h : Ev (fun n => B48 (qd prg n) (n + 1) nl x0 os) Q) : Ev (fun n => qd prg n 48 [x0] os) Q := by subst hnl; exact qQ (fun n => (E48 n _ _).trans (X48_s _ _ _ _ _)) h
theorem X50_s (K : zKT) (N nl : Nat) (x0 : SV) (os : List SO) : X50 K N nl x0 os = B50 K N nl x0 os := by kernel_rfl
theorem E50 (n : Nat) (x0 : SV) (os : List SO) : qd prg (n + 1) 50 [x0] os = X50 (qd prg n) (n + 1) os.length x0 os := by kernel_rfl
theorem U50 {Q : SV → List SO → Prop} {x0 : SV} {os : List SO} {nl : Nat} (hnl : os.length = nl) (h : Ev (fun n => B50 (qd prg n) (n + 1) nl x0 os) Q) : Ev (fun n => qd prg n 50 [x0] os) Q := by subst hnl; exact qQ (fun n => (E50 n _ _).trans (X50_s _ _ _ _ _)) h
theorem X51_s (K : zKT) (N nl : Nat) (x0 x1 x2 : SV) (os : List SO) : X51 K N nl x0 x1 x2 os = B51 K N nl x0 x1 x2 os := by kernel_rfl
theorem E51 (n : Nat) (x0 x1 x2 : SV) (os : List SO) : qd prg (n + 1) 51 [x0, x1, x2] os = X51 (qd prg n) (n + 1) os.length x0 x1 x2 os := by kernel_rfl
theorem U51 {Q : SV → List SO → Prop} {x0 x1 x2 : SV} {os : List SO} {nl : Nat} (hnl : os.length = nl) (h : Ev (fun n => B51 (qd prg n) (n + 1) nl x0 x1 x2 os) Q) : Ev (fun n => qd prg n 51 [x0, x1, x2] os) Q := by subst hnl; exact qQ (fun n => (E51 n _ _ _ _).trans (X51_s _ _ _ _ _ _ _)) h
theorem X52_s (K : zKT) (N nl : Nat) (x0 x1 : SV) (os : List SO) : X52 K N nl x0 x1 os = B52 K N nl x0 x1 os := by kernel_rfl
theorem E52 (n : Nat) (x0 x1 : SV) (os : List SO) : qd prg (n + 1) 52 [x0, x1] os = X52 (qd prg n) (n + 1) os.length x0 x1 os := by kernel_rfl
theorem U52 {Q : SV → List SO → Prop} {x0 x1 : SV} {os : List SO} {nl : Nat} (hnl : os.length = nl) (h : Ev (fun n => B52 (qd prg n) (n + 1) nl x0 x1 os) Q) : Ev (fun n => qd prg n 52 [x0, x1] os) Q := by subst hnl; exact qQ (fun n => (E52 n _ _ _).trans (X52_s _ _ _ _ _ _)) h
theorem qj4 (K : zKT) (N nl : Nat) (m5 : Nat) (x1 x3 x11 x12 x13 : SV) (os : List SO) : Yl K N nl (m5 + 1) x1 x3 x11 x12 x13 os = gcB nl [x1, x3, x11, x12, x13] os fun xs os => qba K N nl m5 xs os := by kernel_rfl
theorem qex {nl c : Nat} {Q : SV → List SO → Prop} {x1 x3 x11 x12 x13 : SV} {os : List SO} (h : Ev (fun n => gcB nl [x1, x3, x11, x12, x13] os fun xs os => qba (qd prg n) (n + 1) nl (n + 1 - (c + 1)) xs os) Q) : Ev (fun n => Yl (qd prg n) (n + 1) nl (n + 1 - c) x1 x3 x11 x12 x13 os) Q := zb (L := fun n m => Yl (qd prg n) (n + 1) nl m x1 x3 x11 x12 x13 os) (fun n m => qj4 _ _ _ _ _ _ _ _ _ _) h
theorem qiq {nl : Nat} {Q : SV → List SO → Prop} {x1 x3 x11 x12 x13 : SV} {os : List SO} (h : Ev (fun n => gcB nl [x1, x3, x11, x12, x13] os fun xs os => qba (qd prg n) (n + 1) nl (n + 1 - 1) xs os) Q) : Ev (fun n => Yl (qd prg n) (n + 1) nl (n + 1) x1 x3 x11 x12 x13 os) Q := qex (c := 0) h
theorem qj5 (K : zKT) (N nl : Nat) (m5 : Nat) (x1 x3 x11 x12 x13 : SV) (os : List SO) : qba K N nl m5 [x1, x3, x11, x12, x13] os = qdS K N nl m5 x1 x3 x11 x12 x13 os := by kernel_rfl
theorem UG53_5 {nl : Nat} {Q : SV → List SO → Prop} (m5 : Nat → Nat) {x1 x3 x11 x12 x13 : SV} {os : List SO} (h : Ev (fun n => qdS (qd prg n) (n + 1) nl (m5 n) x1 x3 x11 x12 x13 os) Q) : Ev (fun n => qba (qd prg n) (n + 1) nl (m5 n) [x1, x3, x11, x12, x13] os) Q := zV (fun n => qj5 _ _ _ _ _ _ _ _ _ _) h
theorem qgV (K : zKT) (N nl : Nat) (m5 : Nat) (m10 : Nat) (x1 x3 x11 x12 x13 x38 x39 x40 : SV) (os : List SO) : Kk K N nl m5 (m10 + 1) x1 x3 x11 x12 x13 x38 x39 x40 os = gcB nl [x1, x3, x11, x12, x13, x38, x39, x40] os fun xs os => Kl K N nl m5 m10 xs os := by kernel_rfl
theorem XP {nl c : Nat} {Q : SV → List SO → Prop} {m5 : Nat → Nat} {x1 x3 x11 x12 x13 x38 x39 x40 : SV} {os : List SO} (h : Ev (fun n => gcB nl [x1, x3, x11, x12, x13, x38, x39, x40] os fun xs os => Kl (qd prg n) (n + 1) nl (m5 n) (n + 1 - (c + 1)) xs os) Q) : Ev (fun n => Kk (qd prg n) (n + 1) nl (m5 n) (n + 1 - c) x1 x3 x11 x12 x13 x38 x39 x40 os) Q := zb (L := fun n m => Kk (qd prg n) (n + 1) nl (m5 n) m x1 x3 x11 x12 x13 x38 x39 x40 os) (fun n m => qgV _ _ _ _ _ _ _ _ _ _ _ _ _ _) h
theorem qey {nl : Nat} {Q : SV → List SO → Prop} {m5 : Nat → Nat} {x1 x3 x11 x12 x13 x38 x39 x40 : SV} {os : List SO} (h : Ev (fun n => gcB nl [x1, x3, x11, x12, x13, x38, x39, x40] os fun xs os => Kl (qd prg n) (n + 1) nl (m5 n) (n + 1 - 1) xs os) Q) : Ev (fun n => Kk (qd prg n) (n + 1) nl (m5 n) (n + 1) x1 x3 x11 x12 x13 x38 x39 x40 os) Q := XP (c := 0) h
theorem qgW (K : zKT) (N nl : Nat) (m5 : Nat) (m10 : Nat) (x1 x3 x11 x12 x13 x38 x39 x40 : SV) (os : List SO) : Kl K N nl m5 m10 [x1, x3, x11, x12, x13, x38, x39, x40] os = Xw K N nl m5 m10 x1 x3 x11 x12 x13 x38 x39 x40 os := by kernel_rfl
theorem qj6 {nl : Nat} {Q : SV → List SO → Prop} {m5 : Nat → Nat} (m10 : Nat → Nat) {x1 x3 x11 x12 x13 x38 x39 x40 : SV} {os : List SO} (h : Ev (fun n => Xw (qd prg n) (n + 1) nl (m5 n) (m10 n) x1 x3 x11 x12 x13 x38 x39 x40 os) Q) : Ev (fun n => Kl (qd prg n) (n + 1) nl (m5 n) (m10 n) [x1, x3, x11, x12, x13, x38, x39, x40] os) Q := zV (fun n => qgW _ _ _ _ _ _ _ _ _ _ _ _ _ _) h
theorem X53_s (K : zKT) (N nl : Nat) (x0 : SV) (os : List SO) : X53 K N nl x0 os = B53 K N nl x0 os := by kernel_rfl
theorem E53 (n : Nat) (x0 : SV) (os : List SO) : qd prg (n + 1) 53 [x0] os = X53 (qd prg n) (n + 1) os.length x0 os := by kernel_rfl
theorem U53 {Q : SV → List SO → Prop} {x0 : SV} {os : List SO} {nl : Nat} (hnl : os.length = nl) (h : Ev (fun n => B53 (qd prg n) (n + 1) nl x0 os) Q) : Ev (fun n => qd prg n 53 [x0] os) Q := by subst hnl; exact qQ (fun n => (E53 n _ _).trans (X53_s _ _ _ _ _)) h
theorem qj7 (K : zKT) (N nl : Nat) (x0 x4 x5 : SV) (os : List SO) : Xx K N nl x0 x4 x5 os = qdT K N nl x0 x4 x5 os := by kernel_rfl
theorem UJ54_9 {nl : Nat} {Q : SV → List SO → Prop} {x0 x4 x5 : SV} {os : List SO} (h : Ev (fun n => qdT (qd prg n) (n + 1) nl x0 x4 x5 os) Q) : Ev (fun n => Xx (qd prg n) (n + 1) nl x0 x4 x5 os) Q := zV (fun n => qj7 _ _ _ _ _ _ _) h
theorem qgX (K : zKT) (N nl : Nat) (x4 x5 : SV) (os : List SO) : Km K N nl x4 x5 os = Xy K N nl x4 x5 os := by kernel_rfl
theorem qj8 {nl : Nat} {Q : SV → List SO → Prop} {x4 x5 : SV} {os : List SO} (h : Ev (fun n => Xy (qd prg n) (n + 1) nl x4 x5 os) Q) : Ev (fun n => Km (qd prg n) (n + 1) nl x4 x5 os) Q := zV (fun n => qgX _ _ _ _ _ _) h
theorem X54_s (K : zKT) (N nl : Nat) (x0 x1 : SV) (os : List SO) : X54 K N nl x0 x1 os = B54 K N nl x0 x1 os := by kernel_rfl
theorem E54 (n : Nat) (x0 x1 : SV) (os : List SO) : qd prg (n + 1) 54 [x0, x1] os = X54 (qd prg n) (n + 1) os.length x0 x1 os := by kernel_rfl
theorem U54 {Q : SV → List SO → Prop} {x0 x1 : SV} {os : List SO} {nl : Nat} (hnl : os.length = nl) (h : Ev (fun n => B54 (qd prg n) (n + 1) nl x0 x1 os) Q) : Ev (fun n => qd prg n 54 [x0, x1] os) Q := by subst hnl; exact qQ (fun n => (E54 n _ _ _).trans (X54_s _ _ _ _ _ _)) h
theorem X55_s (K : zKT) (N nl : Nat) (x0 : SV) (os : List SO) : X55 K N nl x0 os = B55 K N nl x0 os := by kernel_rfl
theorem E55 (n : Nat) (x0 : SV) (os : List SO) : qd prg (n + 1) 55 [x0] os = X55 (qd prg n) (n + 1) os.length x0 os := by kernel_rfl
theorem U55 {Q : SV → List SO → Prop} {x0 : SV} {os : List SO} {nl : Nat} (hnl : os.length = nl) (h : Ev (fun n => B55 (qd prg n) (n + 1) nl x0 os) Q) : Ev (fun n => qd prg n 55 [x0] os) Q := by subst hnl; exact qQ (fun n => (E55 n _ _).trans (X55_s _ _ _ _ _)) h
theorem qgY (K : zKT) (N nl : Nat) (x2 x4 : SV) (os : List SO) : Zp K N nl x2 x4 os = Xz K N nl x2 x4 os := by kernel_rfl
theorem qj9 {nl : Nat} {Q : SV → List SO → Prop} {x2 x4 : SV} {os : List SO} (h : Ev (fun n => Xz (qd prg n) (n + 1) nl x2 x4 os) Q) : Ev (fun n => Zp (qd prg n) (n + 1) nl x2 x4 os) Q := zV (fun n => qgY _ _ _ _ _ _) h
theorem X56_s (K : zKT) (N nl : Nat) (x0 x1 : SV) (os : List SO) : X56 K N nl x0 x1 os = B56 K N nl x0 x1 os := by kernel_rfl
theorem E56 (n : Nat) (x0 x1 : SV) (os : List SO) : qd prg (n + 1) 56 [x0, x1] os = X56 (qd prg n) (n + 1) os.length x0 x1 os := by kernel_rfl
theorem U56 {Q : SV → List SO → Prop} {x0 x1 : SV} {os : List SO} {nl : Nat} (hnl : os.length = nl) (h : Ev (fun n => B56 (qd prg n) (n + 1) nl x0 x1 os) Q) : Ev (fun n => qd prg n 56 [x0, x1] os) Q := by subst hnl; exact qQ (fun n => (E56 n _ _ _).trans (X56_s _ _ _ _ _ _)) h
theorem X57_s (K : zKT) (N nl : Nat) (x0 : SV) (os : List SO) : X57 K N nl x0 os = B57 K N nl x0 os := by kernel_rfl
theorem E57 (n : Nat) (x0 : SV) (os : List SO) : qd prg (n + 1) 57 [x0] os = X57 (qd prg n) (n + 1) os.length x0 os := by kernel_rfl
theorem U57 {Q : SV → List SO → Prop} {x0 : SV} {os : List SO} {nl : Nat} (hnl : os.length = nl) (h : Ev (fun n => B57 (qd prg n) (n + 1) nl x0 os) Q) : Ev (fun n => qd prg n 57 [x0] os) Q := by subst hnl; exact qQ (fun n => (E57 n _ _).trans (X57_s _ _ _ _ _)) h
theorem qgZ (K : zKT) (N nl : Nat) (x3 x4 : SV) (os : List SO) : Qt K N nl x3 x4 os = XA K N nl x3 x4 os := by kernel_rfl
theorem qka {nl : Nat} {Q : SV → List SO → Prop} {x3 x4 : SV} {os : List SO} (h : Ev (fun n => XA (qd prg n) (n + 1) nl x3 x4 os) Q) : Ev (fun n => Qt (qd prg n) (n + 1) nl x3 x4 os) Q := zV (fun n => qgZ _ _ _ _ _ _) h
theorem X58_s (K : zKT) (N nl : Nat) (x0 : SV) (os : List SO) : X58 K N nl x0 os = B58 K N nl x0 os := by kernel_rfl
theorem E58 (n : Nat) (x0 : SV) (os : List SO) : qd prg (n + 1) 58 [x0] os = X58 (qd prg n) (n + 1) os.length x0 os := by kernel_rfl
theorem U58 {Q : SV → List SO → Prop} {x0 : SV} {os : List SO} {nl : Nat} (hnl : os.length = nl) (h : Ev (fun n => B58 (qd prg n) (n + 1) nl x0 os) Q) : Ev (fun n => qd prg n 58 [x0] os) Q := by subst hnl; exact qQ (fun n => (E58 n _ _).trans (X58_s _ _ _ _ _)) h
theorem X59_s (K : zKT) (N nl : Nat) (x0 : SV) (os : List SO) : X59 K N nl x0 os = B59 K N nl x0 os := by kernel_rfl
theorem E59 (n : Nat) (x0 : SV) (os : List SO) : qd prg (n + 1) 59 [x0] os = X59 (qd prg n) (n + 1) os.length x0 os := by kernel_rfl
theorem U59 {Q : SV → List SO → Prop} {x0 : SV} {os : List SO} {nl : Nat} (hnl : os.length = nl) (h : Ev (fun n => B59 (qd prg n) (n + 1) nl x0 os) Q) : Ev (fun n => qd prg n 59 [x0] os) Q := by subst hnl; exact qQ (fun n => (E59 n _ _).trans (X59_s _ _ _ _ _)) h
theorem X60_s (K : zKT) (N nl : Nat) (x0 x1 : SV) (os : List SO) : X60 K N nl x0 x1 os = B60 K N nl x0 x1 os := by kernel_rfl
theorem E60 (n : Nat) (x0 x1 : SV) (os : List SO) : qd prg (n + 1) 60 [x0, x1] os = X60 (qd prg n) (n + 1) os.length x0 x1 os := by kernel_rfl
theorem U60 {Q : SV → List SO → Prop} {x0 x1 : SV} {os : List SO} {nl : Nat} (hnl : os.length = nl) (h : Ev (fun n => B60 (qd prg n) (n + 1) nl x0 x1 os) Q) : Ev (fun n => qd prg n 60 [x0, x1] os) Q := by subst hnl; exact qQ (fun n => (E60 n _ _ _).trans (X60_s _ _ _ _ _ _)) h
theorem qkb (K : zKT) (N nl : Nat) (m4 : Nat) (x2 x3 x5 : SV) (os : List SO) : qbb K N nl (m4 + 1) x2 x3 x5 os = qdU K N nl m4 x2 x3 x5 os := by kernel_rfl
theorem UL61_4 {nl c : Nat} {Q : SV → List SO → Prop} {x2 x3 x5 : SV} {os : List SO} (h : Ev (fun n => qdU (qd prg n) (n + 1) nl (n + 1 - (c + 1)) x2 x3 x5 os) Q) : Ev (fun n => qbb (qd prg n) (n + 1) nl (n + 1 - c) x2 x3 x5 os) Q := zb (L := fun n m => qbb (qd prg n) (n + 1) nl m x2 x3 x5 os) (fun n m => qkb _ _ _ _ _ _ _ _) h
theorem qkc (K : zKT) (N nl : Nat) (m9 : Nat) (x2 x3 x6 : SV) (os : List SO) : qbc K N nl (m9 + 1) x2 x3 x6 os = qdV K N nl m9 x2 x3 x6 os := by kernel_rfl
theorem UL61_9 {nl c : Nat} {Q : SV → List SO → Prop} {x2 x3 x6 : SV} {os : List SO} (h : Ev (fun n => qdV (qd prg n) (n + 1) nl (n + 1 - (c + 1)) x2 x3 x6 os) Q) : Ev (fun n => qbc (qd prg n) (n + 1) nl (n + 1 - c) x2 x3 x6 os) Q := zb (L := fun n m => qbc (qd prg n) (n + 1) nl m x2 x3 x6 os) (fun n m => qkc _ _ _ _ _ _ _ _) h
theorem X61_s (K : zKT) (N nl : Nat) (x0 x1 : SV) (os : List SO) : X61 K N nl x0 x1 os = B61 K N nl x0 x1 os := by kernel_rfl
theorem E61 (n : Nat) (x0 x1 : SV) (os : List SO) : qd prg (n + 1) 61 [x0, x1] os = X61 (qd prg n) (n + 1) os.length x0 x1 os := by kernel_rfl
theorem U61 {Q : SV → List SO → Prop} {x0 x1 : SV} {os : List SO} {nl : Nat} (hnl : os.length = nl) (h : Ev (fun n => B61 (qd prg n) (n + 1) nl x0 x1 os) Q) : Ev (fun n => qd prg n 61 [x0, x1] os) Q := by subst hnl; exact qQ (fun n => (E61 n _ _ _).trans (X61_s _ _ _ _ _ _)) h
theorem X62_s (K : zKT) (N nl : Nat) (x0 x1 x2 : SV) (os : List SO) : X62 K N nl x0 x1 x2 os = B62 K N nl x0 x1 x2 os := by kernel_rfl
theorem E62 (n : Nat) (x0 x1 x2 : SV) (os : List SO) : qd prg (n + 1) 62 [x0, x1, x2] os = X62 (qd prg n) (n + 1) os.length x0 x1 x2 os := by kernel_rfl
theorem U62 {Q : SV → List SO → Prop} {x0 x1 x2 : SV} {os : List SO} {nl : Nat} (hnl : os.length = nl) (h : Ev (fun n => B62 (qd prg n) (n + 1) nl x0 x1 x2 os) Q) : Ev (fun n => qd prg n 62 [x0, x1, x2] os) Q := by subst hnl; exact qQ (fun n => (E62 n _ _ _ _).trans (X62_s _ _ _ _ _ _ _)) h
theorem qkd (K : zKT) (N nl : Nat) (m4 : Nat) (x0 x3 : SV) (os : List SO) : Ym K N nl (m4 + 1) x0 x3 os = qdW K N nl m4 x0 x3 os := by kernel_rfl
theorem UL63_4 {nl c : Nat} {Q : SV → List SO → Prop} {x0 x3 : SV} {os : List SO} (h : Ev (fun n => qdW (qd prg n) (n + 1) nl (n + 1 - (c + 1)) x0 x3 os) Q) : Ev (fun n => Ym (qd prg n) (n + 1) nl (n + 1 - c) x0 x3 os) Q := zb (L := fun n m => Ym (qd prg n) (n + 1) nl m x0 x3 os) (fun n m => qkd _ _ _ _ _ _ _) h
theorem qke (K : zKT) (N nl : Nat) (m4 : Nat) (m7 : Nat) (x0 x3 x4 : SV) (os : List SO) : qbd K N nl m4 (m7 + 1) x0 x3 x4 os = qdX K N nl m4 m7 x0 x3 x4 os := by kernel_rfl
theorem UL63_7 {nl c : Nat} {Q : SV → List SO → Prop} {m4 : Nat → Nat} {x0 x3 x4 : SV} {os : List SO} (h : Ev (fun n => qdX (qd prg n) (n + 1) nl (m4 n) (n + 1 - (c + 1)) x0 x3 x4 os) Q) : Ev (fun n => qbd (qd prg n) (n + 1) nl (m4 n) (n + 1 - c) x0 x3 x4 os) Q := zb (L := fun n m => qbd (qd prg n) (n + 1) nl (m4 n) m x0 x3 x4 os) (fun n m => qke _ _ _ _ _ _ _ _ _) h
theorem qg0 (K : zKT) (N nl : Nat) (m4 : Nat) (m12 : Nat) (x0 x3 x5 : SV) (os : List SO) : Kn K N nl m4 (m12 + 1) x0 x3 x5 os = XB K N nl m4 m12 x0 x3 x5 os := by kernel_rfl
theorem qkf {nl c : Nat} {Q : SV → List SO → Prop} {m4 : Nat → Nat} {x0 x3 x5 : SV} {os : List SO} (h : Ev (fun n => XB (qd prg n) (n + 1) nl (m4 n) (n + 1 - (c + 1)) x0 x3 x5 os) Q) : Ev (fun n => Kn (qd prg n) (n + 1) nl (m4 n) (n + 1 - c) x0 x3 x5 os) Q := zb (L := fun n m => Kn (qd prg n) (n + 1) nl (m4 n) m x0 x3 x5 os) (fun n m => qg0 _ _ _ _ _ _ _ _ _) h
theorem X63_s (K : zKT) (N nl : Nat) (x0 : SV) (os : List SO) : X63 K N nl x0 os = B63 K N nl x0 os := by kernel_rfl
theorem E63 (n : Nat) (x0 : SV) (os : List SO) : qd prg (n + 1) 63 [x0] os = X63 (qd prg n) (n + 1) os.length x0 os := by kernel_rfl
theorem U63 {Q : SV → List SO → Prop} {x0 : SV} {os : List SO} {nl : Nat} (hnl : os.length = nl) (h : Ev (fun n => B63 (qd prg n) (n + 1) nl x0 os) Q) : Ev (fun n => qd prg n 63 [x0] os) Q := by subst hnl; exact qQ (fun n => (E63 n _ _).trans (X63_s _ _ _ _ _)) h
theorem X64_s (K : zKT) (N nl : Nat) (x0 x1 : SV) (os : List SO) : X64 K N nl x0 x1 os = B64 K N nl x0 x1 os := by kernel_rfl
theorem E64 (n : Nat) (x0 x1 : SV) (os : List SO) : qd prg (n + 1) 64 [x0, x1] os = X64 (qd prg n) (n + 1) os.length x0 x1 os := by kernel_rfl
theorem U64 {Q : SV → List SO → Prop} {x0 x1 : SV} {os : List SO} {nl : Nat} (hnl : os.length = nl) (h : Ev (fun n => B64 (qd prg n) (n + 1) nl x0 x1 os) Q) : Ev (fun n => qd prg n 64 [x0, x1] os) Q := by subst hnl; exact qQ (fun n => (E64 n _ _ _).trans (X64_s _ _ _ _ _ _)) h
theorem qkg (K : zKT) (N nl : Nat) (x2 x4 : SV) (os : List SO) : qdY K N nl x2 x4 os = qdZ K N nl x2 x4 os := by kernel_rfl
theorem UJ65_6 {nl : Nat} {Q : SV → List SO → Prop} {x2 x4 : SV} {os : List SO} (h : Ev (fun n => qdZ (qd prg n) (n + 1) nl x2 x4 os) Q) : Ev (fun n => qdY (qd prg n) (n + 1) nl x2 x4 os) Q := zV (fun n => qkg _ _ _ _ _ _) h
theorem X65_s (K : zKT) (N nl : Nat) (x0 x1 : SV) (os : List SO) : X65 K N nl x0 x1 os = B65 K N nl x0 x1 os := by kernel_rfl
theorem E65 (n : Nat) (x0 x1 : SV) (os : List SO) : qd prg (n + 1) 65 [x0, x1] os = X65 (qd prg n) (n + 1) os.length x0 x1 os := by kernel_rfl
theorem U65 {Q : SV → List SO → Prop} {x0 x1 : SV} {os : List SO} {nl : Nat} (hnl : os.length = nl) (h : Ev (fun n => B65 (qd prg n) (n + 1) nl x0 x1 os) Q) : Ev (fun n => qd prg n 65 [x0, x1] os) Q := by subst hnl; exact qQ (fun n => (E65 n _ _ _).trans (X65_s _ _ _ _ _ _)) h
theorem X66_s (K : zKT) (N nl : Nat) (x0 : SV) (os : List SO) : X66 K N nl x0 os = B66 K N nl x0 os := by kernel_rfl
theorem E66 (n : Nat) (x0 : SV) (os : List SO) : qd prg (n + 1) 66 [x0] os = X66 (qd prg n) (n + 1) os.length x0 os := by kernel_rfl
theorem U66 {Q : SV → List SO → Prop} {x0 : SV} {os : List SO} {nl : Nat} (hnl : os.length = nl) (h : Ev (fun n => B66 (qd prg n) (n + 1) nl x0 os) Q) : Ev (fun n => qd prg n 66 [x0] os) Q := by subst hnl; exact qQ (fun n => (E66 n _ _).trans (X66_s _ _ _ _ _)) h
theorem qkh (K : zKT) (N nl : Nat) (m3 : Nat) (x1 x2 x5 x9 x10 x11 : SV) (os : List SO) : qbe K N nl (m3 + 1) x1 x2 x5 x9 x10 x11 os = gcB nl [x1, x2, x5, x9, x10, x11] os fun xs os => qbf K N nl m3 xs os := by kernel_rfl
theorem qez {nl c : Nat} {Q : SV → List SO → Prop} {x1 x2 x5 x9 x10 x11 : SV} {os : List SO} (h : Ev (fun n => gcB nl [x1, x2, x5, x9, x10, x11] os fun xs os => qbf (qd prg n) (n + 1) nl (n + 1 - (c + 1)) xs os) Q) : Ev (fun n => qbe (qd prg n) (n + 1) nl (n + 1 - c) x1 x2 x5 x9 x10 x11 os) Q := zb (L := fun n m => qbe (qd prg n) (n + 1) nl m x1 x2 x5 x9 x10 x11 os) (fun n m => qkh _ _ _ _ _ _ _ _ _ _ _) h
theorem qir {nl : Nat} {Q : SV → List SO → Prop} {x1 x2 x5 x9 x10 x11 : SV} {os : List SO} (h : Ev (fun n => gcB nl [x1, x2, x5, x9, x10, x11] os fun xs os => qbf (qd prg n) (n + 1) nl (n + 1 - 1) xs os) Q) : Ev (fun n => qbe (qd prg n) (n + 1) nl (n + 1) x1 x2 x5 x9 x10 x11 os) Q := qez (c := 0) h
theorem qki (K : zKT) (N nl : Nat) (m3 : Nat) (x1 x2 x5 x9 x10 x11 : SV) (os : List SO) : qbf K N nl m3 [x1, x2, x5, x9, x10, x11] os = qd0 K N nl m3 x1 x2 x5 x9 x10 x11 os := by kernel_rfl
theorem UG67_3 {nl : Nat} {Q : SV → List SO → Prop} (m3 : Nat → Nat) {x1 x2 x5 x9 x10 x11 : SV} {os : List SO} (h : Ev (fun n => qd0 (qd prg n) (n + 1) nl (m3 n) x1 x2 x5 x9 x10 x11 os) Q) : Ev (fun n => qbf (qd prg n) (n + 1) nl (m3 n) [x1, x2, x5, x9, x10, x11] os) Q := zV (fun n => qki _ _ _ _ _ _ _ _ _ _ _) h
theorem qkj (K : zKT) (N nl : Nat) (m3 : Nat) (x1 x2 x5 x9 x10 x11 : SV) (os : List SO) : qgB K N nl m3 x1 x2 x5 x9 x10 x11 os = qd1 K N nl m3 x1 x2 x5 x9 x10 x11 os := by kernel_rfl
theorem UJ67_7 {nl : Nat} {Q : SV → List SO → Prop} {m3 : Nat → Nat} {x1 x2 x5 x9 x10 x11 : SV} {os : List SO} (h : Ev (fun n => qd1 (qd prg n) (n + 1) nl (m3 n) x1 x2 x5 x9 x10 x11 os) Q) : Ev (fun n => qgB (qd prg n) (n + 1) nl (m3 n) x1 x2 x5 x9 x10 x11 os) Q := zV (fun n => qkj _ _ _ _ _ _ _ _ _ _ _) h
theorem X67_s (K : zKT) (N nl : Nat) (x0 x1 : SV) (os : List SO) : X67 K N nl x0 x1 os = B67 K N nl x0 x1 os := by kernel_rfl
theorem E67 (n : Nat) (x0 x1 : SV) (os : List SO) : qd prg (n + 1) 67 [x0, x1] os = X67 (qd prg n) (n + 1) os.length x0 x1 os := by kernel_rfl
theorem U67 {Q : SV → List SO → Prop} {x0 x1 : SV} {os : List SO} {nl : Nat} (hnl : os.length = nl) (h : Ev (fun n => B67 (qd prg n) (n + 1) nl x0 x1 os) Q) : Ev (fun n => qd prg n 67 [x0, x1] os) Q := by subst hnl; exact qQ (fun n => (E67 n _ _ _).trans (X67_s _ _ _ _ _ _)) h
theorem qkk (K : zKT) (N nl : Nat) (m4 : Nat) (x1 x2 x5 x6 x7 : SV) (os : List SO) : qbg K N nl (m4 + 1) x1 x2 x5 x6 x7 os = gcB nl [x1, x2, x5, x6, x7] os fun xs os => XC K N nl m4 xs os := by kernel_rfl
theorem Yn {nl c : Nat} {Q : SV → List SO → Prop} {x1 x2 x5 x6 x7 : SV} {os : List SO} (h : Ev (fun n => gcB nl [x1, x2, x5, x6, x7] os fun xs os => XC (qd prg n) (n + 1) nl (n + 1 - (c + 1)) xs os) Q) : Ev (fun n => qbg (qd prg n) (n + 1) nl (n + 1 - c) x1 x2 x5 x6 x7 os) Q := zb (L := fun n m => qbg (qd prg n) (n + 1) nl m x1 x2 x5 x6 x7 os) (fun n m => qkk _ _ _ _ _ _ _ _ _ _) h
theorem J9 {nl : Nat} {Q : SV → List SO → Prop} {x1 x2 x5 x6 x7 : SV} {os : List SO} (h : Ev (fun n => gcB nl [x1, x2, x5, x6, x7] os fun xs os => XC (qd prg n) (n + 1) nl (n + 1 - 1) xs os) Q) : Ev (fun n => qbg (qd prg n) (n + 1) nl (n + 1) x1 x2 x5 x6 x7 os) Q := Yn (c := 0) h
theorem qkl (K : zKT) (N nl : Nat) (m4 : Nat) (x1 x2 x5 x6 x7 : SV) (os : List SO) : XC K N nl m4 [x1, x2, x5, x6, x7] os = J3 K N nl m4 x1 x2 x5 x6 x7 os := by kernel_rfl
theorem qis {nl : Nat} {Q : SV → List SO → Prop} (m4 : Nat → Nat) {x1 x2 x5 x6 x7 : SV} {os : List SO} (h : Ev (fun n => J3 (qd prg n) (n + 1) nl (m4 n) x1 x2 x5 x6 x7 os) Q) : Ev (fun n => XC (qd prg n) (n + 1) nl (m4 n) [x1, x2, x5, x6, x7] os) Q := zV (fun n => qkl _ _ _ _ _ _ _ _ _ _) h
theorem qkm (K : zKT) (N nl : Nat) (m4 : Nat) (x1 x2 x5 x6 x7 : SV) (os : List SO) : qgC K N nl m4 x1 x2 x5 x6 x7 os = J4 K N nl m4 x1 x2 x5 x6 x7 os := by kernel_rfl
theorem qit {nl : Nat} {Q : SV → List SO → Prop} {m4 : Nat → Nat} {x1 x2 x5 x6 x7 : SV} {os : List SO} (h : Ev (fun n => J4 (qd prg n) (n + 1) nl (m4 n) x1 x2 x5 x6 x7 os) Q) : Ev (fun n => qgC (qd prg n) (n + 1) nl (m4 n) x1 x2 x5 x6 x7 os) Q := zV (fun n => qkm _ _ _ _ _ _ _ _ _ _) h
theorem X68_s (K : zKT) (N nl : Nat) (x0 x1 : SV) (os : List SO) : X68 K N nl x0 x1 os = B68 K N nl x0 x1 os := by kernel_rfl
theorem E68 (n : Nat) (x0 x1 : SV) (os : List SO) : qd prg (n + 1) 68 [x0, x1] os = X68 (qd prg n) (n + 1) os.length x0 x1 os := by kernel_rfl
theorem U68 {Q : SV → List SO → Prop} {x0 x1 : SV} {os : List SO} {nl : Nat} (hnl : os.length = nl) (h : Ev (fun n => B68 (qd prg n) (n + 1) nl x0 x1 os) Q) : Ev (fun n => qd prg n 68 [x0, x1] os) Q := by subst hnl; exact qQ (fun n => (E68 n _ _ _).trans (X68_s _ _ _ _ _ _)) h
theorem X69_s (K : zKT) (N nl : Nat) (x0 x1 : SV) (os : List SO) : X69 K N nl x0 x1 os = B69 K N nl x0 x1 os := by kernel_rfl
theorem E69 (n : Nat) (x0 x1 : SV) (os : List SO) : qd prg (n + 1) 69 [x0, x1] os = X69 (qd prg n) (n + 1) os.length x0 x1 os := by kernel_rfl
theorem U69 {Q : SV → List SO → Prop} {x0 x1 : SV} {os : List SO} {nl : Nat} (hnl : os.length = nl) (h : Ev (fun n => B69 (qd prg n) (n + 1) nl x0 x1 os) Q) : Ev (fun n => qd prg n 69 [x0, x1] os) Q := by subst hnl; exact qQ (fun n => (E69 n _ _ _).trans (X69_s _ _ _ _ _ _)) h
theorem X70_s (K : zKT) (N nl : Nat) (x0 : SV) (os : List SO) : X70 K N nl x0 os = B70 K N nl x0 os := by kernel_rfl
theorem E70 (n : Nat) (x0 : SV) (os : List SO) : qd prg (n + 1) 70 [x0] os = X70 (qd prg n) (n + 1) os.length x0 os := by kernel_rfl
theorem U70 {Q : SV → List SO → Prop} {x0 : SV} {os : List SO} {nl : Nat} (hnl : os.length = nl) (h : Ev (fun n => B70 (qd prg n) (n + 1) nl x0 os) Q) : Ev (fun n => qd prg n 70 [x0] os) Q := by subst hnl; exact qQ (fun n => (E70 n _ _).trans (X70_s _ _ _ _ _)) h
theorem qkn (K : zKT) (N nl : Nat) (m3 : Nat) (x0 x1 x5 x6 : SV) (os : List SO) : qbh K N nl (m3 + 1) x0 x1 x5 x6 os = gcB nl [x0, x1, x5, x6] os fun xs os => qbi K N nl m3 xs os := by kernel_rfl
theorem qeA {nl c : Nat} {Q : SV → List SO → Prop} {x0 x1 x5 x6 : SV} {os : List SO} (h : Ev (fun n => gcB nl [x0, x1, x5, x6] os fun xs os => qbi (qd prg n) (n + 1) nl (n + 1 - (c + 1)) xs os) Q) : Ev (fun n => qbh (qd prg n) (n + 1) nl (n + 1 - c) x0 x1 x5 x6 os) Q := zb (L := fun n m => qbh (qd prg n) (n + 1) nl m x0 x1 x5 x6 os) (fun n m => qkn _ _ _ _ _ _ _ _ _) h
theorem qiu {nl : Nat} {Q : SV → List SO → Prop} {x0 x1 x5 x6 : SV} {os : List SO} (h : Ev (fun n => gcB nl [x0, x1, x5, x6] os fun xs os => qbi (qd prg n) (n + 1) nl (n + 1 - 1) xs os) Q) : Ev (fun n => qbh (qd prg n) (n + 1) nl (n + 1) x0 x1 x5 x6 os) Q := qeA (c := 0) h
theorem qko (K : zKT) (N nl : Nat) (m3 : Nat) (x0 x1 x5 x6 : SV) (os : List SO) : qbi K N nl m3 [x0, x1, x5, x6] os = qd2 K N nl m3 x0 x1 x5 x6 os := by kernel_rfl
theorem UG71_3 {nl : Nat} {Q : SV → List SO → Prop} (m3 : Nat → Nat) {x0 x1 x5 x6 : SV} {os : List SO} (h : Ev (fun n => qd2 (qd prg n) (n + 1) nl (m3 n) x0 x1 x5 x6 os) Q) : Ev (fun n => qbi (qd prg n) (n + 1) nl (m3 n) [x0, x1, x5, x6] os) Q := zV (fun n => qko _ _ _ _ _ _ _ _ _) h
theorem qkp (K : zKT) (N nl : Nat) (m3 : Nat) (x0 x1 x5 x6 : SV) (os : List SO) : qgD K N nl m3 x0 x1 x5 x6 os = qd3 K N nl m3 x0 x1 x5 x6 os := by kernel_rfl
theorem UJ71_4 {nl : Nat} {Q : SV → List SO → Prop} {m3 : Nat → Nat} {x0 x1 x5 x6 : SV} {os : List SO} (h : Ev (fun n => qd3 (qd prg n) (n + 1) nl (m3 n) x0 x1 x5 x6 os) Q) : Ev (fun n => qgD (qd prg n) (n + 1) nl (m3 n) x0 x1 x5 x6 os) Q := zV (fun n => qkp _ _ _ _ _ _ _ _ _) h
theorem X71_s (K : zKT) (N nl : Nat) (x0 x1 : SV) (os : List SO) : X71 K N nl x0 x1 os = B71 K N nl x0 x1 os := by kernel_rfl
theorem E71 (n : Nat) (x0 x1 : SV) (os : List SO) : qd prg (n + 1) 71 [x0, x1] os = X71 (qd prg n) (n + 1) os.length x0 x1 os := by kernel_rfl
theorem U71 {Q : SV → List SO → Prop} {x0 x1 : SV} {os : List SO} {nl : Nat} (hnl : os.length = nl) (h : Ev (fun n => B71 (qd prg n) (n + 1) nl x0 x1 os) Q) : Ev (fun n => qd prg n 71 [x0, x1] os) Q := by subst hnl; exact qQ (fun n => (E71 n _ _ _).trans (X71_s _ _ _ _ _ _)) h
theorem qkq (K : zKT) (N nl : Nat) (m3 : Nat) (x0 x3 x4 : SV) (os : List SO) : qbj K N nl (m3 + 1) x0 x3 x4 os = gcB nl [x0, x3, x4] os fun xs os => qbk K N nl m3 xs os := by kernel_rfl
theorem qeB {nl c : Nat} {Q : SV → List SO → Prop} {x0 x3 x4 : SV} {os : List SO} (h : Ev (fun n => gcB nl [x0, x3, x4] os fun xs os => qbk (qd prg n) (n + 1) nl (n + 1 - (c + 1)) xs os) Q) : Ev (fun n => qbj (qd prg n) (n + 1) nl (n + 1 - c) x0 x3 x4 os) Q := zb (L := fun n m => qbj (qd prg n) (n + 1) nl m x0 x3 x4 os) (fun n m => qkq _ _ _ _ _ _ _ _) h
theorem qiv {nl : Nat} {Q : SV → List SO → Prop} {x0 x3 x4 : SV} {os : List SO} (h : Ev (fun n => gcB nl [x0, x3, x4] os fun xs os => qbk (qd prg n) (n + 1) nl (n + 1 - 1) xs os) Q) : Ev (fun n => qbj (qd prg n) (n + 1) nl (n + 1) x0 x3 x4 os) Q := qeB (c := 0) h
theorem qkr (K : zKT) (N nl : Nat) (m3 : Nat) (x0 x3 x4 : SV) (os : List SO) : qbk K N nl m3 [x0, x3, x4] os = qd4 K N nl m3 x0 x3 x4 os := by kernel_rfl
theorem UG72_3 {nl : Nat} {Q : SV → List SO → Prop} (m3 : Nat → Nat) {x0 x3 x4 : SV} {os : List SO} (h : Ev (fun n => qd4 (qd prg n) (n + 1) nl (m3 n) x0 x3 x4 os) Q) : Ev (fun n => qbk (qd prg n) (n + 1) nl (m3 n) [x0, x3, x4] os) Q := zV (fun n => qkr _ _ _ _ _ _ _ _) h
theorem qks (K : zKT) (N nl : Nat) (m3 : Nat) (x0 x3 x4 : SV) (os : List SO) : qgE K N nl m3 x0 x3 x4 os = qd5 K N nl m3 x0 x3 x4 os := by kernel_rfl
theorem UJ72_4 {nl : Nat} {Q : SV → List SO → Prop} {m3 : Nat → Nat} {x0 x3 x4 : SV} {os : List SO} (h : Ev (fun n => qd5 (qd prg n) (n + 1) nl (m3 n) x0 x3 x4 os) Q) : Ev (fun n => qgE (qd prg n) (n + 1) nl (m3 n) x0 x3 x4 os) Q := zV (fun n => qks _ _ _ _ _ _ _ _) h
theorem X72_s (K : zKT) (N nl : Nat) (x0 : SV) (os : List SO) : X72 K N nl x0 os = B72 K N nl x0 os := by kernel_rfl
theorem E72 (n : Nat) (x0 : SV) (os : List SO) : qd prg (n + 1) 72 [x0] os = X72 (qd prg n) (n + 1) os.length x0 os := by kernel_rfl
theorem U72 {Q : SV → List SO → Prop} {x0 : SV} {os : List SO} {nl : Nat} (hnl : os.length = nl) (h : Ev (fun n => B72 (qd prg n) (n + 1) nl x0 os) Q) : Ev (fun n => qd prg n 72 [x0] os) Q := by subst hnl; exact qQ (fun n => (E72 n _ _).trans (X72_s _ _ _ _ _)) h
theorem qkt (K : zKT) (N nl : Nat) (m3 : Nat) (x3 x6 x7 x8 : SV) (os : List SO) : qbl K N nl (m3 + 1) x3 x6 x7 x8 os = gcB nl [x3, x6, x7, x8] os fun xs os => qbm K N nl m3 xs os := by kernel_rfl
theorem qeC {nl c : Nat} {Q : SV → List SO → Prop} {x3 x6 x7 x8 : SV} {os : List SO} (h : Ev (fun n => gcB nl [x3, x6, x7, x8] os fun xs os => qbm (qd prg n) (n + 1) nl (n + 1 - (c + 1)) xs os) Q) : Ev (fun n => qbl (qd prg n) (n + 1) nl (n + 1 - c) x3 x6 x7 x8 os) Q := zb (L := fun n m => qbl (qd prg n) (n + 1) nl m x3 x6 x7 x8 os) (fun n m => qkt _ _ _ _ _ _ _ _ _) h
theorem qiw {nl : Nat} {Q : SV → List SO → Prop} {x3 x6 x7 x8 : SV} {os : List SO} (h : Ev (fun n => gcB nl [x3, x6, x7, x8] os fun xs os => qbm (qd prg n) (n + 1) nl (n + 1 - 1) xs os) Q) : Ev (fun n => qbl (qd prg n) (n + 1) nl (n + 1) x3 x6 x7 x8 os) Q := qeC (c := 0) h
theorem qku (K : zKT) (N nl : Nat) (m3 : Nat) (x3 x6 x7 x8 : SV) (os : List SO) : qbm K N nl m3 [x3, x6, x7, x8] os = qd6 K N nl m3 x3 x6 x7 x8 os := by kernel_rfl
theorem UG73_3 {nl : Nat} {Q : SV → List SO → Prop} (m3 : Nat → Nat) {x3 x6 x7 x8 : SV} {os : List SO} (h : Ev (fun n => qd6 (qd prg n) (n + 1) nl (m3 n) x3 x6 x7 x8 os) Q) : Ev (fun n => qbm (qd prg n) (n + 1) nl (m3 n) [x3, x6, x7, x8] os) Q := zV (fun n => qku _ _ _ _ _ _ _ _ _) h
theorem X73_s (K : zKT) (N nl : Nat) (x0 : SV) (os : List SO) : X73 K N nl x0 os = B73 K N nl x0 os := by kernel_rfl
theorem E73 (n : Nat) (x0 : SV) (os : List SO) : qd prg (n + 1) 73 [x0] os = X73 (qd prg n) (n + 1) os.length x0 os := by kernel_rfl
theorem U73 {Q : SV → List SO → Prop} {x0 : SV} {os : List SO} {nl : Nat} (hnl : os.length = nl) (h : Ev (fun n => B73 (qd prg n) (n + 1) nl x0 os) Q) : Ev (fun n => qd prg n 73 [x0] os) Q := by subst hnl; exact qQ (fun n => (E73 n _ _).trans (X73_s _ _ _ _ _)) h
theorem X74_s (K : zKT) (N nl : Nat) (os : List SO) : X74 K N nl os = B74 K N nl os := by kernel_rfl
theorem E74 (n : Nat) (os : List SO) : qd prg (n + 1) 74 [] os = X74 (qd prg n) (n + 1) os.length os := by kernel_rfl
theorem U74 {Q : SV → List SO → Prop} {os : List SO} {nl : Nat} (hnl : os.length = nl) (h : Ev (fun n => B74 (qd prg n) (n + 1) nl os) Q) : Ev (fun n => qd prg n 74 [] os) Q := by subst hnl; exact qQ (fun n => (E74 n _).trans (X74_s _ _ _ _)) h
theorem qkv (K : zKT) (N nl : Nat) (x3 : SV) (os : List SO) : qbn K N nl x3 os = qd7 K N nl x3 os := by kernel_rfl
theorem UJ75_8 {nl : Nat} {Q : SV → List SO → Prop} {x3 : SV} {os : List SO} (h : Ev (fun n => qd7 (qd prg n) (n + 1) nl x3 os) Q) : Ev (fun n => qbn (qd prg n) (n + 1) nl x3 os) Q := zV (fun n => qkv _ _ _ _ _) h
theorem X75_s (K : zKT) (N nl : Nat) (x0 : SV) (os : List SO) : X75 K N nl x0 os = B75 K N nl x0 os := by kernel_rfl
theorem E75 (n : Nat) (x0 : SV) (os : List SO) : qd prg (n + 1) 75 [x0] os = X75 (qd prg n) (n + 1) os.length x0 os := by kernel_rfl
theorem U75 {Q : SV → List SO → Prop} {x0 : SV} {os : List SO} {nl : Nat} (hnl : os.length = nl) (h : Ev (fun n => B75 (qd prg n) (n + 1) nl x0 os) Q) : Ev (fun n => qd prg n 75 [x0] os) Q := by subst hnl; exact qQ (fun n => (E75 n _ _).trans (X75_s _ _ _ _ _)) h
theorem qkw (K : zKT) (N nl : Nat) (m2 : Nat) (x0 x1 x7 x8 : SV) (os : List SO) : qbo K N nl (m2 + 1) x0 x1 x7 x8 os = qd8 K N nl m2 x0 x1 x7 x8 os := by kernel_rfl
theorem UL77_2 {nl c : Nat} {Q : SV → List SO → Prop} {x0 x1 x7 x8 : SV} {os : List SO} (h : Ev (fun n => qd8 (qd prg n) (n + 1) nl (n + 1 - (c + 1)) x0 x1 x7 x8 os) Q) : Ev (fun n => qbo (qd prg n) (n + 1) nl (n + 1 - c) x0 x1 x7 x8 os) Q := zb (L := fun n m => qbo (qd prg n) (n + 1) nl m x0 x1 x7 x8 os) (fun n m => qkw _ _ _ _ _ _ _ _ _) h
theorem X77_s (K : zKT) (N nl : Nat) (x0 x1 : SV) (os : List SO) : X77 K N nl x0 x1 os = B77 K N nl x0 x1 os := by kernel_rfl
theorem E77 (n : Nat) (x0 x1 : SV) (os : List SO) : qd prg (n + 1) 77 [x0, x1] os = X77 (qd prg n) (n + 1) os.length x0 x1 os := by kernel_rfl
theorem U77 {Q : SV → List SO → Prop} {x0 x1 : SV} {os : List SO} {nl : Nat} (hnl : os.length = nl) (h : Ev (fun n => B77 (qd prg n) (n + 1) nl x0 x1 os) Q) : Ev (fun n => qd prg n 77 [x0, x1] os) Q := by subst hnl; exact qQ (fun n => (E77 n _ _ _).trans (X77_s _ _ _ _ _ _)) h
theorem qkx (K : zKT) (N nl : Nat) (m2 : Nat) (x0 x5 x6 x7 : SV) (os : List SO) : qbp K N nl (m2 + 1) x0 x5 x6 x7 os = gcB nl [x0, x5, x6, x7] os fun xs os => qbq K N nl m2 xs os := by kernel_rfl
theorem qeD {nl c : Nat} {Q : SV → List SO → Prop} {x0 x5 x6 x7 : SV} {os : List SO} (h : Ev (fun n => gcB nl [x0, x5, x6, x7] os fun xs os => qbq (qd prg n) (n + 1) nl (n + 1 - (c + 1)) xs os) Q) : Ev (fun n => qbp (qd prg n) (n + 1) nl (n + 1 - c) x0 x5 x6 x7 os) Q := zb (L := fun n m => qbp (qd prg n) (n + 1) nl m x0 x5 x6 x7 os) (fun n m => qkx _ _ _ _ _ _ _ _ _) h
theorem qix {nl : Nat} {Q : SV → List SO → Prop} {x0 x5 x6 x7 : SV} {os : List SO} (h : Ev (fun n => gcB nl [x0, x5, x6, x7] os fun xs os => qbq (qd prg n) (n + 1) nl (n + 1 - 1) xs os) Q) : Ev (fun n => qbp (qd prg n) (n + 1) nl (n + 1) x0 x5 x6 x7 os) Q := qeD (c := 0) h
theorem qky (K : zKT) (N nl : Nat) (m2 : Nat) (x0 x5 x6 x7 : SV) (os : List SO) : qbq K N nl m2 [x0, x5, x6, x7] os = qd9 K N nl m2 x0 x5 x6 x7 os := by kernel_rfl
theorem UG78_2 {nl : Nat} {Q : SV → List SO → Prop} (m2 : Nat → Nat) {x0 x5 x6 x7 : SV} {os : List SO} (h : Ev (fun n => qd9 (qd prg n) (n + 1) nl (m2 n) x0 x5 x6 x7 os) Q) : Ev (fun n => qbq (qd prg n) (n + 1) nl (m2 n) [x0, x5, x6, x7] os) Q := zV (fun n => qky _ _ _ _ _ _ _ _ _) h
theorem X78_s (K : zKT) (N nl : Nat) (x0 : SV) (os : List SO) : X78 K N nl x0 os = B78 K N nl x0 os := by kernel_rfl
theorem E78 (n : Nat) (x0 : SV) (os : List SO) : qd prg (n + 1) 78 [x0] os = X78 (qd prg n) (n + 1) os.length x0 os := by kernel_rfl
theorem U78 {Q : SV → List SO → Prop} {x0 : SV} {os : List SO} {nl : Nat} (hnl : os.length = nl) (h : Ev (fun n => B78 (qd prg n) (n + 1) nl x0 os) Q) : Ev (fun n => qd prg n 78 [x0] os) Q := by subst hnl; exact qQ (fun n => (E78 n _ _).trans (X78_s _ _ _ _ _)) h
theorem X79_s (K : zKT) (N nl : Nat) (x0 x1 : SV) (os : List SO) : X79 K N nl x0 x1 os = B79 K N nl x0 x1 os := by kernel_rfl
theorem E79 (n : Nat) (x0 x1 : SV) (os : List SO) : qd prg (n + 1) 79 [x0, x1] os = X79 (qd prg n) (n + 1) os.length x0 x1 os := by kernel_rfl
theorem U79 {Q : SV → List SO → Prop} {x0 x1 : SV} {os : List SO} {nl : Nat} (hnl : os.length = nl) (h : Ev (fun n => B79 (qd prg n) (n + 1) nl x0 x1 os) Q) : Ev (fun n => qd prg n 79 [x0, x1] os) Q := by subst hnl; exact qQ (fun n => (E79 n _ _ _).trans (X79_s _ _ _ _ _ _)) h
theorem X80_s (K : zKT) (N nl : Nat) (x0 x1 : SV) (os : List SO) : X80 K N nl x0 x1 os = B80 K N nl x0 x1 os := by kernel_rfl
theorem E80 (n : Nat) (x0 x1 : SV) (os : List SO) : qd prg (n + 1) 80 [x0, x1] os = X80 (qd prg n) (n + 1) os.length x0 x1 os := by kernel_rfl
theorem U80 {Q : SV → List SO → Prop} {x0 x1 : SV} {os : List SO} {nl : Nat} (hnl : os.length = nl) (h : Ev (fun n => B80 (qd prg n) (n + 1) nl x0 x1 os) Q) : Ev (fun n => qd prg n 80 [x0, x1] os) Q := by subst hnl; exact qQ (fun n => (E80 n _ _ _).trans (X80_s _ _ _ _ _ _)) h
theorem X81_s (K : zKT) (N nl : Nat) (x0 x1 : SV) (os : List SO) : X81 K N nl x0 x1 os = B81 K N nl x0 x1 os := by kernel_rfl
theorem E81 (n : Nat) (x0 x1 : SV) (os : List SO) : qd prg (n + 1) 81 [x0, x1] os = X81 (qd prg n) (n + 1) os.length x0 x1 os := by kernel_rfl
theorem U81 {Q : SV → List SO → Prop} {x0 x1 : SV} {os : List SO} {nl : Nat} (hnl : os.length = nl) (h : Ev (fun n => B81 (qd prg n) (n + 1) nl x0 x1 os) Q) : Ev (fun n => qd prg n 81 [x0, x1] os) Q := by subst hnl; exact qQ (fun n => (E81 n _ _ _).trans (X81_s _ _ _ _ _ _)) h
theorem qkz (K : zKT) (N nl : Nat) (m3 : Nat) (x0 x3 x4 : SV) (os : List SO) : qbr K N nl (m3 + 1) x0 x3 x4 os = gcB nl [x0, x3, x4] os fun xs os => qbs K N nl m3 xs os := by kernel_rfl
theorem qeE {nl c : Nat} {Q : SV → List SO → Prop} {x0 x3 x4 : SV} {os : List SO} (h : Ev (fun n => gcB nl [x0, x3, x4] os fun xs os => qbs (qd prg n) (n + 1) nl (n + 1 - (c + 1)) xs os) Q) : Ev (fun n => qbr (qd prg n) (n + 1) nl (n + 1 - c) x0 x3 x4 os) Q := zb (L := fun n m => qbr (qd prg n) (n + 1) nl m x0 x3 x4 os) (fun n m => qkz _ _ _ _ _ _ _ _) h
theorem qiy {nl : Nat} {Q : SV → List SO → Prop} {x0 x3 x4 : SV} {os : List SO} (h : Ev (fun n => gcB nl [x0, x3, x4] os fun xs os => qbs (qd prg n) (n + 1) nl (n + 1 - 1) xs os) Q) : Ev (fun n => qbr (qd prg n) (n + 1) nl (n + 1) x0 x3 x4 os) Q := qeE (c := 0) h
theorem qkA (K : zKT) (N nl : Nat) (m3 : Nat) (x0 x3 x4 : SV) (os : List SO) : qbs K N nl m3 [x0, x3, x4] os = qea K N nl m3 x0 x3 x4 os := by kernel_rfl
theorem UG82_3 {nl : Nat} {Q : SV → List SO → Prop} (m3 : Nat → Nat) {x0 x3 x4 : SV} {os : List SO} (h : Ev (fun n => qea (qd prg n) (n + 1) nl (m3 n) x0 x3 x4 os) Q) : Ev (fun n => qbs (qd prg n) (n + 1) nl (m3 n) [x0, x3, x4] os) Q := zV (fun n => qkA _ _ _ _ _ _ _ _) h
theorem X82_s (K : zKT) (N nl : Nat) (x0 : SV) (os : List SO) : X82 K N nl x0 os = B82 K N nl x0 os := by kernel_rfl
theorem E82 (n : Nat) (x0 : SV) (os : List SO) : qd prg (n + 1) 82 [x0] os = X82 (qd prg n) (n + 1) os.length x0 os := by kernel_rfl
theorem U82 {Q : SV → List SO → Prop} {x0 : SV} {os : List SO} {nl : Nat} (hnl : os.length = nl) (h : Ev (fun n => B82 (qd prg n) (n + 1) nl x0 os) Q) : Ev (fun n => qd prg n 82 [x0] os) Q := by subst hnl; exact qQ (fun n => (E82 n _ _).trans (X82_s _ _ _ _ _)) h
theorem E83 (n : Nat) (xs : List SV) (os : List SO) : qd prg (n + 1) 83 xs os = xd 1 8 xs os := by kernel_rfl
theorem X84_s (K : zKT) (N nl : Nat) (x0 : SV) (os : List SO) : X84 K N nl x0 os = B84 K N nl x0 os := by kernel_rfl
theorem E84 (n : Nat) (x0 : SV) (os : List SO) : qd prg (n + 1) 84 [x0] os = X84 (qd prg n) (n + 1) os.length x0 os := by kernel_rfl
theorem U84 {Q : SV → List SO → Prop} {x0 : SV} {os : List SO} {nl : Nat} (hnl : os.length = nl) (h : Ev (fun n => B84 (qd prg n) (n + 1) nl x0 os) Q) : Ev (fun n => qd prg n 84 [x0] os) Q := by subst hnl; exact qQ (fun n => (E84 n _ _).trans (X84_s _ _ _ _ _)) h
theorem qkB (K : zKT) (N nl : Nat) (m2 : Nat) (x0 x3 : SV) (os : List SO) : qbt K N nl (m2 + 1) x0 x3 os = qeb K N nl m2 x0 x3 os := by kernel_rfl
theorem UL85_2 {nl c : Nat} {Q : SV → List SO → Prop} {x0 x3 : SV} {os : List SO} (h : Ev (fun n => qeb (qd prg n) (n + 1) nl (n + 1 - (c + 1)) x0 x3 os) Q) : Ev (fun n => qbt (qd prg n) (n + 1) nl (n + 1 - c) x0 x3 os) Q := zb (L := fun n m => qbt (qd prg n) (n + 1) nl m x0 x3 os) (fun n m => qkB _ _ _ _ _ _ _) h
theorem X85_s (K : zKT) (N nl : Nat) (x0 : SV) (os : List SO) : X85 K N nl x0 os = B85 K N nl x0 os := by kernel_rfl
theorem E85 (n : Nat) (x0 : SV) (os : List SO) : qd prg (n + 1) 85 [x0] os = X85 (qd prg n) (n + 1) os.length x0 os := by kernel_rfl
theorem U85 {Q : SV → List SO → Prop} {x0 : SV} {os : List SO} {nl : Nat} (hnl : os.length = nl) (h : Ev (fun n => B85 (qd prg n) (n + 1) nl x0 os) Q) : Ev (fun n => qd prg n 85 [x0] os) Q := by subst hnl; exact qQ (fun n => (E85 n _ _).trans (X85_s _ _ _ _ _)) h
theorem X86_s (K : zKT) (N nl : Nat) (x0 x1 : SV) (os : List SO) : X86 K N nl x0 x1 os = B86 K N nl x0 x1 os := by kernel_rfl
theorem E86 (n : Nat) (x0 x1 : SV) (os : List SO) : qd prg (n + 1) 86 [x0, x1] os = X86 (qd prg n) (n + 1) os.length x0 x1 os := by kernel_rfl
theorem U86 {Q : SV → List SO → Prop} {x0 x1 : SV} {os : List SO} {nl : Nat} (hnl : os.length = nl) (h : Ev (fun n => B86 (qd prg n) (n + 1) nl x0 x1 os) Q) : Ev (fun n => qd prg n 86 [x0, x1] os) Q := by subst hnl; exact qQ (fun n => (E86 n _ _ _).trans (X86_s _ _ _ _ _ _)) h
theorem qkC (K : zKT) (N nl : Nat) (m2 : Nat) (x0 x1 x2 x7 : SV) (os : List SO) : XD K N nl (m2 + 1) x0 x1 x2 x7 os = qec K N nl m2 x0 x1 x2 x7 os := by kernel_rfl
theorem UL87_2 {nl c : Nat} {Q : SV → List SO → Prop} {x0 x1 x2 x7 : SV} {os : List SO} (h : Ev (fun n => qec (qd prg n) (n + 1) nl (n + 1 - (c + 1)) x0 x1 x2 x7 os) Q) : Ev (fun n => XD (qd prg n) (n + 1) nl (n + 1 - c) x0 x1 x2 x7 os) Q := zb (L := fun n m => XD (qd prg n) (n + 1) nl m x0 x1 x2 x7 os) (fun n m => qkC _ _ _ _ _ _ _ _ _) h
theorem qkD (K : zKT) (N nl : Nat) (m2 : Nat) (m5 : Nat) (x0 x1 x2 x7 x8 : SV) (os : List SO) : qbu K N nl m2 (m5 + 1) x0 x1 x2 x7 x8 os = qed K N nl m2 m5 x0 x1 x2 x7 x8 os := by kernel_rfl
theorem UL87_5 {nl c : Nat} {Q : SV → List SO → Prop} {m2 : Nat → Nat} {x0 x1 x2 x7 x8 : SV} {os : List SO} (h : Ev (fun n => qed (qd prg n) (n + 1) nl (m2 n) (n + 1 - (c + 1)) x0 x1 x2 x7 x8 os) Q) : Ev (fun n => qbu (qd prg n) (n + 1) nl (m2 n) (n + 1 - c) x0 x1 x2 x7 x8 os) Q := zb (L := fun n m => qbu (qd prg n) (n + 1) nl (m2 n) m x0 x1 x2 x7 x8 os) (fun n m => qkD _ _ _ _ _ _ _ _ _ _ _) h
theorem X87_s (K : zKT) (N nl : Nat) (x0 x1 x2 : SV) (os : List SO) : X87 K N nl x0 x1 x2 os = B87 K N nl x0 x1 x2 os := by kernel_rfl
theorem E87 (n : Nat) (x0 x1 x2 : SV) (os : List SO) : qd prg (n + 1) 87 [x0, x1, x2] os = X87 (qd prg n) (n + 1) os.length x0 x1 x2 os := by kernel_rfl
theorem U87 {Q : SV → List SO → Prop} {x0 x1 x2 : SV} {os : List SO} {nl : Nat} (hnl : os.length = nl) (h : Ev (fun n => B87 (qd prg n) (n + 1) nl x0 x1 x2 os) Q) : Ev (fun n => qd prg n 87 [x0, x1, x2] os) Q := by subst hnl; exact qQ (fun n => (E87 n _ _ _ _).trans (X87_s _ _ _ _ _ _ _)) h
theorem qkE (K : zKT) (N nl : Nat) (m2 : Nat) (x0 x1 x7 x8 : SV) (os : List SO) : qbv K N nl (m2 + 1) x0 x1 x7 x8 os = qee K N nl m2 x0 x1 x7 x8 os := by kernel_rfl
theorem UL88_2 {nl c : Nat} {Q : SV → List SO → Prop} {x0 x1 x7 x8 : SV} {os : List SO} (h : Ev (fun n => qee (qd prg n) (n + 1) nl (n + 1 - (c + 1)) x0 x1 x7 x8 os) Q) : Ev (fun n => qbv (qd prg n) (n + 1) nl (n + 1 - c) x0 x1 x7 x8 os) Q := zb (L := fun n m => qbv (qd prg n) (n + 1) nl m x0 x1 x7 x8 os) (fun n m => qkE _ _ _ _ _ _ _ _ _) h
theorem X88_s (K : zKT) (N nl : Nat) (x0 x1 : SV) (os : List SO) : X88 K N nl x0 x1 os = B88 K N nl x0 x1 os := by kernel_rfl
theorem E88 (n : Nat) (x0 x1 : SV) (os : List SO) : qd prg (n + 1) 88 [x0, x1] os = X88 (qd prg n) (n + 1) os.length x0 x1 os := by kernel_rfl
theorem U88 {Q : SV → List SO → Prop} {x0 x1 : SV} {os : List SO} {nl : Nat} (hnl : os.length = nl) (h : Ev (fun n => B88 (qd prg n) (n + 1) nl x0 x1 os) Q) : Ev (fun n => qd prg n 88 [x0, x1] os) Q := by subst hnl; exact qQ (fun n => (E88 n _ _ _).trans (X88_s _ _ _ _ _ _)) h
theorem qkF (K : zKT) (N nl : Nat) (m4 : Nat) (x0 x1 x8 x9 : SV) (os : List SO) : qbw K N nl (m4 + 1) x0 x1 x8 x9 os = qef K N nl m4 x0 x1 x8 x9 os := by kernel_rfl
theorem UL89_4 {nl c : Nat} {Q : SV → List SO → Prop} {x0 x1 x8 x9 : SV} {os : List SO} (h : Ev (fun n => qef (qd prg n) (n + 1) nl (n + 1 - (c + 1)) x0 x1 x8 x9 os) Q) : Ev (fun n => qbw (qd prg n) (n + 1) nl (n + 1 - c) x0 x1 x8 x9 os) Q := zb (L := fun n m => qbw (qd prg n) (n + 1) nl m x0 x1 x8 x9 os) (fun n m => qkF _ _ _ _ _ _ _ _ _) h
theorem qkG (K : zKT) (N nl : Nat) (m9 : Nat) (x0 x1 x8 x10 x11 : SV) (os : List SO) : qbx K N nl (m9 + 1) x0 x1 x8 x10 x11 os = gcB nl [x0, x1, x8, x10, x11] os fun xs os => qby K N nl m9 xs os := by kernel_rfl
theorem qaa {nl c : Nat} {Q : SV → List SO → Prop} {x0 x1 x8 x10 x11 : SV} {os : List SO} (h : Ev (fun n => gcB nl [x0, x1, x8, x10, x11] os fun xs os => qby (qd prg n) (n + 1) nl (n + 1 - (c + 1)) xs os) Q) : Ev (fun n => qbx (qd prg n) (n + 1) nl (n + 1 - c) x0 x1 x8 x10 x11 os) Q := zb (L := fun n m => qbx (qd prg n) (n + 1) nl m x0 x1 x8 x10 x11 os) (fun n m => qkG _ _ _ _ _ _ _ _ _ _) h
theorem qeF {nl : Nat} {Q : SV → List SO → Prop} {x0 x1 x8 x10 x11 : SV} {os : List SO} (h : Ev (fun n => gcB nl [x0, x1, x8, x10, x11] os fun xs os => qby (qd prg n) (n + 1) nl (n + 1 - 1) xs os) Q) : Ev (fun n => qbx (qd prg n) (n + 1) nl (n + 1) x0 x1 x8 x10 x11 os) Q := qaa (c := 0) h
theorem qkH (K : zKT) (N nl : Nat) (m9 : Nat) (x0 x1 x8 x10 x11 : SV) (os : List SO) : qby K N nl m9 [x0, x1, x8, x10, x11] os = qeg K N nl m9 x0 x1 x8 x10 x11 os := by kernel_rfl
theorem UG89_9 {nl : Nat} {Q : SV → List SO → Prop} (m9 : Nat → Nat) {x0 x1 x8 x10 x11 : SV} {os : List SO} (h : Ev (fun n => qeg (qd prg n) (n + 1) nl (m9 n) x0 x1 x8 x10 x11 os) Q) : Ev (fun n => qby (qd prg n) (n + 1) nl (m9 n) [x0, x1, x8, x10, x11] os) Q := zV (fun n => qkH _ _ _ _ _ _ _ _ _ _) h
theorem qg1 (K : zKT) (N nl : Nat) (m9 : Nat) (x0 x1 x8 x10 x11 : SV) (os : List SO) : Ko K N nl m9 x0 x1 x8 x10 x11 os = Wj K N nl m9 x0 x1 x8 x10 x11 os := by kernel_rfl
theorem qeG {nl : Nat} {Q : SV → List SO → Prop} {m9 : Nat → Nat} {x0 x1 x8 x10 x11 : SV} {os : List SO} (h : Ev (fun n => Wj (qd prg n) (n + 1) nl (m9 n) x0 x1 x8 x10 x11 os) Q) : Ev (fun n => Ko (qd prg n) (n + 1) nl (m9 n) x0 x1 x8 x10 x11 os) Q := zV (fun n => qg1 _ _ _ _ _ _ _ _ _ _) h
theorem qg2 (K : zKT) (N nl : Nat) (m9 : Nat) (m17 : Nat) (x0 x1 x8 x10 x12 x14 : SV) (os : List SO) : Kp K N nl m9 (m17 + 1) x0 x1 x8 x10 x12 x14 os = XE K N nl m9 m17 x0 x1 x8 x10 x12 x14 os := by kernel_rfl
theorem qkI {nl c : Nat} {Q : SV → List SO → Prop} {m9 : Nat → Nat} {x0 x1 x8 x10 x12 x14 : SV} {os : List SO} (h : Ev (fun n => XE (qd prg n) (n + 1) nl (m9 n) (n + 1 - (c + 1)) x0 x1 x8 x10 x12 x14 os) Q) : Ev (fun n => Kp (qd prg n) (n + 1) nl (m9 n) (n + 1 - c) x0 x1 x8 x10 x12 x14 os) Q := zb (L := fun n m => Kp (qd prg n) (n + 1) nl (m9 n) m x0 x1 x8 x10 x12 x14 os) (fun n m => qg2 _ _ _ _ _ _ _ _ _ _ _ _) h
theorem X89_s (K : zKT) (N nl : Nat) (x0 x1 x2 : SV) (os : List SO) : X89 K N nl x0 x1 x2 os = B89 K N nl x0 x1 x2 os := by kernel_rfl
theorem E89 (n : Nat) (x0 x1 x2 : SV) (os : List SO) : qd prg (n + 1) 89 [x0, x1, x2] os = X89 (qd prg n) (n + 1) os.length x0 x1 x2 os := by kernel_rfl
theorem U89 {Q : SV → List SO → Prop} {x0 x1 x2 : SV} {os : List SO} {nl : Nat} (hnl : os.length = nl) (h : Ev (fun n => B89 (qd prg n) (n + 1) nl x0 x1 x2 os) Q) : Ev (fun n => qd prg n 89 [x0, x1, x2] os) Q := by subst hnl; exact qQ (fun n => (E89 n _ _ _ _).trans (X89_s _ _ _ _ _ _ _)) h
theorem qkJ (K : zKT) (N nl : Nat) (m4 : Nat) (x0 x1 x6 x7 x8 x9 : SV) (os : List SO) : qbz K N nl (m4 + 1) x0 x1 x6 x7 x8 x9 os = gcB nl [x0, x1, x6, x7, x8, x9] os fun xs os => qbA K N nl m4 xs os := by kernel_rfl
theorem qeH {nl c : Nat} {Q : SV → List SO → Prop} {x0 x1 x6 x7 x8 x9 : SV} {os : List SO} (h : Ev (fun n => gcB nl [x0, x1, x6, x7, x8, x9] os fun xs os => qbA (qd prg n) (n + 1) nl (n + 1 - (c + 1)) xs os) Q) : Ev (fun n => qbz (qd prg n) (n + 1) nl (n + 1 - c) x0 x1 x6 x7 x8 x9 os) Q := zb (L := fun n m => qbz (qd prg n) (n + 1) nl m x0 x1 x6 x7 x8 x9 os) (fun n m => qkJ _ _ _ _ _ _ _ _ _ _ _) h
theorem qiz {nl : Nat} {Q : SV → List SO → Prop} {x0 x1 x6 x7 x8 x9 : SV} {os : List SO} (h : Ev (fun n => gcB nl [x0, x1, x6, x7, x8, x9] os fun xs os => qbA (qd prg n) (n + 1) nl (n + 1 - 1) xs os) Q) : Ev (fun n => qbz (qd prg n) (n + 1) nl (n + 1) x0 x1 x6 x7 x8 x9 os) Q := qeH (c := 0) h
theorem qkK (K : zKT) (N nl : Nat) (m4 : Nat) (x0 x1 x6 x7 x8 x9 : SV) (os : List SO) : qbA K N nl m4 [x0, x1, x6, x7, x8, x9] os = qeh K N nl m4 x0 x1 x6 x7 x8 x9 os := by kernel_rfl
theorem UG90_4 {nl : Nat} {Q : SV → List SO → Prop} (m4 : Nat → Nat) {x0 x1 x6 x7 x8 x9 : SV} {os : List SO} (h : Ev (fun n => qeh (qd prg n) (n + 1) nl (m4 n) x0 x1 x6 x7 x8 x9 os) Q) : Ev (fun n => qbA (qd prg n) (n + 1) nl (m4 n) [x0, x1, x6, x7, x8, x9] os) Q := zV (fun n => qkK _ _ _ _ _ _ _ _ _ _ _) h
theorem qkL (K : zKT) (N nl : Nat) (m9 : Nat) (x0 x1 x6 x7 x10 : SV) (os : List SO) : qbB K N nl (m9 + 1) x0 x1 x6 x7 x10 os = gcB nl [x0, x1, x6, x7, x10] os fun xs os => qbC K N nl m9 xs os := by kernel_rfl
theorem qeI {nl c : Nat} {Q : SV → List SO → Prop} {x0 x1 x6 x7 x10 : SV} {os : List SO} (h : Ev (fun n => gcB nl [x0, x1, x6, x7, x10] os fun xs os => qbC (qd prg n) (n + 1) nl (n + 1 - (c + 1)) xs os) Q) : Ev (fun n => qbB (qd prg n) (n + 1) nl (n + 1 - c) x0 x1 x6 x7 x10 os) Q := zb (L := fun n m => qbB (qd prg n) (n + 1) nl m x0 x1 x6 x7 x10 os) (fun n m => qkL _ _ _ _ _ _ _ _ _ _) h
theorem qiA {nl : Nat} {Q : SV → List SO → Prop} {x0 x1 x6 x7 x10 : SV} {os : List SO} (h : Ev (fun n => gcB nl [x0, x1, x6, x7, x10] os fun xs os => qbC (qd prg n) (n + 1) nl (n + 1 - 1) xs os) Q) : Ev (fun n => qbB (qd prg n) (n + 1) nl (n + 1) x0 x1 x6 x7 x10 os) Q := qeI (c := 0) h
theorem qkM (K : zKT) (N nl : Nat) (m9 : Nat) (x0 x1 x6 x7 x10 : SV) (os : List SO) : qbC K N nl m9 [x0, x1, x6, x7, x10] os = qei K N nl m9 x0 x1 x6 x7 x10 os := by kernel_rfl
theorem UG90_9 {nl : Nat} {Q : SV → List SO → Prop} (m9 : Nat → Nat) {x0 x1 x6 x7 x10 : SV} {os : List SO} (h : Ev (fun n => qei (qd prg n) (n + 1) nl (m9 n) x0 x1 x6 x7 x10 os) Q) : Ev (fun n => qbC (qd prg n) (n + 1) nl (m9 n) [x0, x1, x6, x7, x10] os) Q := zV (fun n => qkM _ _ _ _ _ _ _ _ _ _) h
theorem qg3 (K : zKT) (N nl : Nat) (m9 : Nat) (x0 x1 x6 x7 x10 : SV) (os : List SO) : J6 K N nl m9 x0 x1 x6 x7 x10 os = XF K N nl m9 x0 x1 x6 x7 x10 os := by kernel_rfl
theorem qkN {nl : Nat} {Q : SV → List SO → Prop} {m9 : Nat → Nat} {x0 x1 x6 x7 x10 : SV} {os : List SO} (h : Ev (fun n => XF (qd prg n) (n + 1) nl (m9 n) x0 x1 x6 x7 x10 os) Q) : Ev (fun n => J6 (qd prg n) (n + 1) nl (m9 n) x0 x1 x6 x7 x10 os) Q := zV (fun n => qg3 _ _ _ _ _ _ _ _ _ _) h
theorem X90_s (K : zKT) (N nl : Nat) (x0 x1 x2 : SV) (os : List SO) : X90 K N nl x0 x1 x2 os = B90 K N nl x0 x1 x2 os := by kernel_rfl
theorem E90 (n : Nat) (x0 x1 x2 : SV) (os : List SO) : qd prg (n + 1) 90 [x0, x1, x2] os = X90 (qd prg n) (n + 1) os.length x0 x1 x2 os := by kernel_rfl
theorem U90 {Q : SV → List SO → Prop} {x0 x1 x2 : SV} {os : List SO} {nl : Nat} (hnl : os.length = nl) (h : Ev (fun n => B90 (qd prg n) (n + 1) nl x0 x1 x2 os) Q) : Ev (fun n => qd prg n 90 [x0, x1, x2] os) Q := by subst hnl; exact qQ (fun n => (E90 n _ _ _ _).trans (X90_s _ _ _ _ _ _ _)) h
theorem qkO (K : zKT) (N nl : Nat) (m2 : Nat) (x0 x1 x2 x7 : SV) (os : List SO) : qbD K N nl (m2 + 1) x0 x1 x2 x7 os = qej K N nl m2 x0 x1 x2 x7 os := by kernel_rfl
theorem UL91_2 {nl c : Nat} {Q : SV → List SO → Prop} {x0 x1 x2 x7 : SV} {os : List SO} (h : Ev (fun n => qej (qd prg n) (n + 1) nl (n + 1 - (c + 1)) x0 x1 x2 x7 os) Q) : Ev (fun n => qbD (qd prg n) (n + 1) nl (n + 1 - c) x0 x1 x2 x7 os) Q := zb (L := fun n m => qbD (qd prg n) (n + 1) nl m x0 x1 x2 x7 os) (fun n m => qkO _ _ _ _ _ _ _ _ _) h
theorem X91_s (K : zKT) (N nl : Nat) (x0 x1 x2 : SV) (os : List SO) : X91 K N nl x0 x1 x2 os = B91 K N nl x0 x1 x2 os := by kernel_rfl
theorem E91 (n : Nat) (x0 x1 x2 : SV) (os : List SO) : qd prg (n + 1) 91 [x0, x1, x2] os = X91 (qd prg n) (n + 1) os.length x0 x1 x2 os := by kernel_rfl
theorem U91 {Q : SV → List SO → Prop} {x0 x1 x2 : SV} {os : List SO} {nl : Nat} (hnl : os.length = nl) (h : Ev (fun n => B91 (qd prg n) (n + 1) nl x0 x1 x2 os) Q) : Ev (fun n => qd prg n 91 [x0, x1, x2] os) Q := by subst hnl; exact qQ (fun n => (E91 n _ _ _ _).trans (X91_s _ _ _ _ _ _ _)) h
theorem qkP (K : zKT) (N nl : Nat) (m3 : Nat) (x0 x3 x5 x6 : SV) (os : List SO) : qbE K N nl (m3 + 1) x0 x3 x5 x6 os = gcB nl [x0, x3, x5, x6] os fun xs os => qbF K N nl m3 xs os := by kernel_rfl
theorem qeJ {nl c : Nat} {Q : SV → List SO → Prop} {x0 x3 x5 x6 : SV} {os : List SO} (h : Ev (fun n => gcB nl [x0, x3, x5, x6] os fun xs os => qbF (qd prg n) (n + 1) nl (n + 1 - (c + 1)) xs os) Q) : Ev (fun n => qbE (qd prg n) (n + 1) nl (n + 1 - c) x0 x3 x5 x6 os) Q := zb (L := fun n m => qbE (qd prg n) (n + 1) nl m x0 x3 x5 x6 os) (fun n m => qkP _ _ _ _ _ _ _ _ _) h
theorem qiB {nl : Nat} {Q : SV → List SO → Prop} {x0 x3 x5 x6 : SV} {os : List SO} (h : Ev (fun n => gcB nl [x0, x3, x5, x6] os fun xs os => qbF (qd prg n) (n + 1) nl (n + 1 - 1) xs os) Q) : Ev (fun n => qbE (qd prg n) (n + 1) nl (n + 1) x0 x3 x5 x6 os) Q := qeJ (c := 0) h
theorem qkQ (K : zKT) (N nl : Nat) (m3 : Nat) (x0 x3 x5 x6 : SV) (os : List SO) : qbF K N nl m3 [x0, x3, x5, x6] os = qek K N nl m3 x0 x3 x5 x6 os := by kernel_rfl
theorem UG92_3 {nl : Nat} {Q : SV → List SO → Prop} (m3 : Nat → Nat) {x0 x3 x5 x6 : SV} {os : List SO} (h : Ev (fun n => qek (qd prg n) (n + 1) nl (m3 n) x0 x3 x5 x6 os) Q) : Ev (fun n => qbF (qd prg n) (n + 1) nl (m3 n) [x0, x3, x5, x6] os) Q := zV (fun n => qkQ _ _ _ _ _ _ _ _ _) h
theorem qkR (K : zKT) (N nl : Nat) (m3 : Nat) (x0 x3 x5 x6 : SV) (os : List SO) : qgF K N nl m3 x0 x3 x5 x6 os = qel K N nl m3 x0 x3 x5 x6 os := by kernel_rfl
theorem UJ92_4 {nl : Nat} {Q : SV → List SO → Prop} {m3 : Nat → Nat} {x0 x3 x5 x6 : SV} {os : List SO} (h : Ev (fun n => qel (qd prg n) (n + 1) nl (m3 n) x0 x3 x5 x6 os) Q) : Ev (fun n => qgF (qd prg n) (n + 1) nl (m3 n) x0 x3 x5 x6 os) Q := zV (fun n => qkR _ _ _ _ _ _ _ _ _) h
theorem qkS (K : zKT) (N nl : Nat) (m9 : Nat) (x0 x3 x5 x7 : SV) (os : List SO) : qbG K N nl (m9 + 1) x0 x3 x5 x7 os = gcB nl [x0, x3, x5, x7] os fun xs os => qbH K N nl m9 xs os := by kernel_rfl
theorem qeK {nl c : Nat} {Q : SV → List SO → Prop} {x0 x3 x5 x7 : SV} {os : List SO} (h : Ev (fun n => gcB nl [x0, x3, x5, x7] os fun xs os => qbH (qd prg n) (n + 1) nl (n + 1 - (c + 1)) xs os) Q) : Ev (fun n => qbG (qd prg n) (n + 1) nl (n + 1 - c) x0 x3 x5 x7 os) Q := zb (L := fun n m => qbG (qd prg n) (n + 1) nl m x0 x3 x5 x7 os) (fun n m => qkS _ _ _ _ _ _ _ _ _) h
theorem qiC {nl : Nat} {Q : SV → List SO → Prop} {x0 x3 x5 x7 : SV} {os : List SO} (h : Ev (fun n => gcB nl [x0, x3, x5, x7] os fun xs os => qbH (qd prg n) (n + 1) nl (n + 1 - 1) xs os) Q) : Ev (fun n => qbG (qd prg n) (n + 1) nl (n + 1) x0 x3 x5 x7 os) Q := qeK (c := 0) h
theorem qkT (K : zKT) (N nl : Nat) (m9 : Nat) (x0 x3 x5 x7 : SV) (os : List SO) : qbH K N nl m9 [x0, x3, x5, x7] os = qem K N nl m9 x0 x3 x5 x7 os := by kernel_rfl
theorem UG92_9 {nl : Nat} {Q : SV → List SO → Prop} (m9 : Nat → Nat) {x0 x3 x5 x7 : SV} {os : List SO} (h : Ev (fun n => qem (qd prg n) (n + 1) nl (m9 n) x0 x3 x5 x7 os) Q) : Ev (fun n => qbH (qd prg n) (n + 1) nl (m9 n) [x0, x3, x5, x7] os) Q := zV (fun n => qkT _ _ _ _ _ _ _ _ _) h
theorem qg4 (K : zKT) (N nl : Nat) (m9 : Nat) (x0 x3 x5 x7 : SV) (os : List SO) : J7 K N nl m9 x0 x3 x5 x7 os = XG K N nl m9 x0 x3 x5 x7 os := by kernel_rfl
theorem qkU {nl : Nat} {Q : SV → List SO → Prop} {m9 : Nat → Nat} {x0 x3 x5 x7 : SV} {os : List SO} (h : Ev (fun n => XG (qd prg n) (n + 1) nl (m9 n) x0 x3 x5 x7 os) Q) : Ev (fun n => J7 (qd prg n) (n + 1) nl (m9 n) x0 x3 x5 x7 os) Q := zV (fun n => qg4 _ _ _ _ _ _ _ _ _) h
theorem X92_s (K : zKT) (N nl : Nat) (x0 x1 : SV) (os : List SO) : X92 K N nl x0 x1 os = B92 K N nl x0 x1 os := by kernel_rfl
theorem E92 (n : Nat) (x0 x1 : SV) (os : List SO) : qd prg (n + 1) 92 [x0, x1] os = X92 (qd prg n) (n + 1) os.length x0 x1 os := by kernel_rfl
theorem U92 {Q : SV → List SO → Prop} {x0 x1 : SV} {os : List SO} {nl : Nat} (hnl : os.length = nl) (h : Ev (fun n => B92 (qd prg n) (n + 1) nl x0 x1 os) Q) : Ev (fun n => qd prg n 92 [x0, x1] os) Q := by subst hnl; exact qQ (fun n => (E92 n _ _ _).trans (X92_s _ _ _ _ _ _)) h
theorem X93_s (K : zKT) (N nl : Nat) (x0 : SV) (os : List SO) : X93 K N nl x0 os = B93 K N nl x0 os := by kernel_rfl
theorem E93 (n : Nat) (x0 : SV) (os : List SO) : qd prg (n + 1) 93 [x0] os = X93 (qd prg n) (n + 1) os.length x0 os := by kernel_rfl
theorem U93 {Q : SV → List SO → Prop} {x0 : SV} {os : List SO} {nl : Nat} (hnl : os.length = nl) (h : Ev (fun n => B93 (qd prg n) (n + 1) nl x0 os) Q) : Ev (fun n => qd prg n 93 [x0] os) Q := by subst hnl; exact qQ (fun n => (E93 n _ _).trans (X93_s _ _ _ _ _)) h
theorem qg5 (K : zKT) (N nl : Nat) (x2 x3 : SV) (os : List SO) : Zq K N nl x2 x3 os = XH K N nl x2 x3 os := by kernel_rfl
theorem qkV {nl : Nat} {Q : SV → List SO → Prop} {x2 x3 : SV} {os : List SO} (h : Ev (fun n => XH (qd prg n) (n + 1) nl x2 x3 os) Q) : Ev (fun n => Zq (qd prg n) (n + 1) nl x2 x3 os) Q := zV (fun n => qg5 _ _ _ _ _ _) h
theorem X94_s (K : zKT) (N nl : Nat) (x0 : SV) (os : List SO) : X94 K N nl x0 os = B94 K N nl x0 os := by kernel_rfl
theorem E94 (n : Nat) (x0 : SV) (os : List SO) : qd prg (n + 1) 94 [x0] os = X94 (qd prg n) (n + 1) os.length x0 os := by kernel_rfl
theorem U94 {Q : SV → List SO → Prop} {x0 : SV} {os : List SO} {nl : Nat} (hnl : os.length = nl) (h : Ev (fun n => B94 (qd prg n) (n + 1) nl x0 os) Q) : Ev (fun n => qd prg n 94 [x0] os) Q := by subst hnl; exact qQ (fun n => (E94 n _ _).trans (X94_s _ _ _ _ _)) h
theorem qkW (K : zKT) (N nl : Nat) (m4 : Nat) (x1 x30 x31 x32 : SV) (os : List SO) : qbI K N nl (m4 + 1) x1 x30 x31 x32 os = gcB nl [x1, x30, x31, x32] os fun xs os => qbJ K N nl m4 xs os := by kernel_rfl
theorem qeL {nl c : Nat} {Q : SV → List SO → Prop} {x1 x30 x31 x32 : SV} {os : List SO} (h : Ev (fun n => gcB nl [x1, x30, x31, x32] os fun xs os => qbJ (qd prg n) (n + 1) nl (n + 1 - (c + 1)) xs os) Q) : Ev (fun n => qbI (qd prg n) (n + 1) nl (n + 1 - c) x1 x30 x31 x32 os) Q := zb (L := fun n m => qbI (qd prg n) (n + 1) nl m x1 x30 x31 x32 os) (fun n m => qkW _ _ _ _ _ _ _ _ _) h
theorem qiD {nl : Nat} {Q : SV → List SO → Prop} {x1 x30 x31 x32 : SV} {os : List SO} (h : Ev (fun n => gcB nl [x1, x30, x31, x32] os fun xs os => qbJ (qd prg n) (n + 1) nl (n + 1 - 1) xs os) Q) : Ev (fun n => qbI (qd prg n) (n + 1) nl (n + 1) x1 x30 x31 x32 os) Q := qeL (c := 0) h
theorem qkX (K : zKT) (N nl : Nat) (m4 : Nat) (x1 x30 x31 x32 : SV) (os : List SO) : qbJ K N nl m4 [x1, x30, x31, x32] os = qen K N nl m4 x1 x30 x31 x32 os := by kernel_rfl
theorem UG97_4 {nl : Nat} {Q : SV → List SO → Prop} (m4 : Nat → Nat) {x1 x30 x31 x32 : SV} {os : List SO} (h : Ev (fun n => qen (qd prg n) (n + 1) nl (m4 n) x1 x30 x31 x32 os) Q) : Ev (fun n => qbJ (qd prg n) (n + 1) nl (m4 n) [x1, x30, x31, x32] os) Q := zV (fun n => qkX _ _ _ _ _ _ _ _ _) h
theorem qg6 (K : zKT) (N nl : Nat) (m10 : Nat) (x1 x65 x66 x67 : SV) (os : List SO) : Kq K N nl (m10 + 1) x1 x65 x66 x67 os = gcB nl [x1, x65, x66, x67] os fun xs os => Kr K N nl m10 xs os := by kernel_rfl
theorem XQ {nl c : Nat} {Q : SV → List SO → Prop} {x1 x65 x66 x67 : SV} {os : List SO} (h : Ev (fun n => gcB nl [x1, x65, x66, x67] os fun xs os => Kr (qd prg n) (n + 1) nl (n + 1 - (c + 1)) xs os) Q) : Ev (fun n => Kq (qd prg n) (n + 1) nl (n + 1 - c) x1 x65 x66 x67 os) Q := zb (L := fun n m => Kq (qd prg n) (n + 1) nl m x1 x65 x66 x67 os) (fun n m => qg6 _ _ _ _ _ _ _ _ _) h
theorem qeM {nl : Nat} {Q : SV → List SO → Prop} {x1 x65 x66 x67 : SV} {os : List SO} (h : Ev (fun n => gcB nl [x1, x65, x66, x67] os fun xs os => Kr (qd prg n) (n + 1) nl (n + 1 - 1) xs os) Q) : Ev (fun n => Kq (qd prg n) (n + 1) nl (n + 1) x1 x65 x66 x67 os) Q := XQ (c := 0) h
theorem qg7 (K : zKT) (N nl : Nat) (m10 : Nat) (x1 x65 x66 x67 : SV) (os : List SO) : Kr K N nl m10 [x1, x65, x66, x67] os = XI K N nl m10 x1 x65 x66 x67 os := by kernel_rfl
theorem qkY {nl : Nat} {Q : SV → List SO → Prop} (m10 : Nat → Nat) {x1 x65 x66 x67 : SV} {os : List SO} (h : Ev (fun n => XI (qd prg n) (n + 1) nl (m10 n) x1 x65 x66 x67 os) Q) : Ev (fun n => Kr (qd prg n) (n + 1) nl (m10 n) [x1, x65, x66, x67] os) Q := zV (fun n => qg7 _ _ _ _ _ _ _ _ _) h
theorem X97_s (K : zKT) (N nl : Nat) (x0 : SV) (os : List SO) : X97 K N nl x0 os = B97 K N nl x0 os := by kernel_rfl
theorem E97 (n : Nat) (x0 : SV) (os : List SO) : qd prg (n + 1) 97 [x0] os = X97 (qd prg n) (n + 1) os.length x0 os := by kernel_rfl
theorem U97 {Q : SV → List SO → Prop} {x0 : SV} {os : List SO} {nl : Nat} (hnl : os.length = nl) (h : Ev (fun n => B97 (qd prg n) (n + 1) nl x0 os) Q) : Ev (fun n => qd prg n 97 [x0] os) Q := by subst hnl; exact qQ (fun n => (E97 n _ _).trans (X97_s _ _ _ _ _)) h
theorem X98_s (K : zKT) (N nl : Nat) (x0 x1 : SV) (os : List SO) : X98 K N nl x0 x1 os = B98 K N nl x0 x1 os := by kernel_rfl
theorem E98 (n : Nat) (x0 x1 : SV) (os : List SO) : qd prg (n + 1) 98 [x0, x1] os = X98 (qd prg n) (n + 1) os.length x0 x1 os := by kernel_rfl
theorem U98 {Q : SV → List SO → Prop} {x0 x1 : SV} {os : List SO} {nl : Nat} (hnl : os.length = nl) (h : Ev (fun n => B98 (qd prg n) (n + 1) nl x0 x1 os) Q) : Ev (fun n => qd prg n 98 [x0, x1] os) Q := by subst hnl; exact qQ (fun n => (E98 n _ _ _).trans (X98_s _ _ _ _ _ _)) h
theorem qkZ (K : zKT) (N nl : Nat) (m2 : Nat) (x0 x1 x7 x8 : SV) (os : List SO) : qbK K N nl (m2 + 1) x0 x1 x7 x8 os = qeo K N nl m2 x0 x1 x7 x8 os := by kernel_rfl
theorem UL99_2 {nl c : Nat} {Q : SV → List SO → Prop} {x0 x1 x7 x8 : SV} {os : List SO} (h : Ev (fun n => qeo (qd prg n) (n + 1) nl (n + 1 - (c + 1)) x0 x1 x7 x8 os) Q) : Ev (fun n => qbK (qd prg n) (n + 1) nl (n + 1 - c) x0 x1 x7 x8 os) Q := zb (L := fun n m => qbK (qd prg n) (n + 1) nl m x0 x1 x7 x8 os) (fun n m => qkZ _ _ _ _ _ _ _ _ _) h
theorem X99_s (K : zKT) (N nl : Nat) (x0 x1 : SV) (os : List SO) : X99 K N nl x0 x1 os = B99 K N nl x0 x1 os := by kernel_rfl
theorem E99 (n : Nat) (x0 x1 : SV) (os : List SO) : qd prg (n + 1) 99 [x0, x1] os = X99 (qd prg n) (n + 1) os.length x0 x1 os := by kernel_rfl
theorem U99 {Q : SV → List SO → Prop} {x0 x1 : SV} {os : List SO} {nl : Nat} (hnl : os.length = nl) (h : Ev (fun n => B99 (qd prg n) (n + 1) nl x0 x1 os) Q) : Ev (fun n => qd prg n 99 [x0, x1] os) Q := by subst hnl; exact qQ (fun n => (E99 n _ _ _).trans (X99_s _ _ _ _ _ _)) h
theorem X100_s (K : zKT) (N nl : Nat) (x0 x1 : SV) (os : List SO) : X100 K N nl x0 x1 os = B100 K N nl x0 x1 os := by kernel_rfl
theorem E100 (n : Nat) (x0 x1 : SV) (os : List SO) : qd prg (n + 1) 100 [x0, x1] os = X100 (qd prg n) (n + 1) os.length x0 x1 os := by kernel_rfl
theorem U100 {Q : SV → List SO → Prop} {x0 x1 : SV} {os : List SO} {nl : Nat} (hnl : os.length = nl) (h : Ev (fun n => B100 (qd prg n) (n + 1) nl x0 x1 os) Q) : Ev (fun n => qd prg n 100 [x0, x1] os) Q := by subst hnl; exact qQ (fun n => (E100 n _ _ _).trans (X100_s _ _ _ _ _ _)) h
theorem X101_s (K : zKT) (N nl : Nat) (x0 x1 : SV) (os : List SO) : X101 K N nl x0 x1 os = B101 K N nl x0 x1 os := by kernel_rfl
theorem E101 (n : Nat) (x0 x1 : SV) (os : List SO) : qd prg (n + 1) 101 [x0, x1] os = X101 (qd prg n) (n + 1) os.length x0 x1 os := by kernel_rfl
theorem U101 {Q : SV → List SO → Prop} {x0 x1 : SV} {os : List SO} {nl : Nat} (hnl : os.length = nl) (h : Ev (fun n => B101 (qd prg n) (n + 1) nl x0 x1 os) Q) : Ev (fun n => qd prg n 101 [x0, x1] os) Q := by subst hnl; exact qQ (fun n => (E101 n _ _ _).trans (X101_s _ _ _ _ _ _)) h
theorem X102_s (K : zKT) (N nl : Nat) (x0 : SV) (os : List SO) : X102 K N nl x0 os = B102 K N nl x0 os := by kernel_rfl
theorem E102 (n : Nat) (x0 : SV) (os : List SO) : qd prg (n + 1) 102 [x0] os = X102 (qd prg n) (n + 1) os.length x0 os := by kernel_rfl
theorem U102 {Q : SV → List SO → Prop} {x0 : SV} {os : List SO} {nl : Nat} (hnl : os.length = nl) (h : Ev (fun n => B102 (qd prg n) (n + 1) nl x0 os) Q) : Ev (fun n => qd prg n 102 [x0] os) Q := by subst hnl; exact qQ (fun n => (E102 n _ _).trans (X102_s _ _ _ _ _)) h
theorem qg8 (K : zKT) (N nl : Nat) (m2 : Nat) (x0 x3 : SV) (os : List SO) : Ks K N nl (m2 + 1) x0 x3 os = XJ K N nl m2 x0 x3 os := by kernel_rfl
theorem qk0 {nl c : Nat} {Q : SV → List SO → Prop} {x0 x3 : SV} {os : List SO} (h : Ev (fun n => XJ (qd prg n) (n + 1) nl (n + 1 - (c + 1)) x0 x3 os) Q) : Ev (fun n => Ks (qd prg n) (n + 1) nl (n + 1 - c) x0 x3 os) Q := zb (L := fun n m => Ks (qd prg n) (n + 1) nl m x0 x3 os) (fun n m => qg8 _ _ _ _ _ _ _) h
theorem X103_s (K : zKT) (N nl : Nat) (x0 : SV) (os : List SO) : X103 K N nl x0 os = B103 K N nl x0 os := by kernel_rfl
theorem E103 (n : Nat) (x0 : SV) (os : List SO) : qd prg (n + 1) 103 [x0] os = X103 (qd prg n) (n + 1) os.length x0 os := by kernel_rfl
theorem U103 {Q : SV → List SO → Prop} {x0 : SV} {os : List SO} {nl : Nat} (hnl : os.length = nl) (h : Ev (fun n => B103 (qd prg n) (n + 1) nl x0 os) Q) : Ev (fun n => qd prg n 103 [x0] os) Q := by subst hnl; exact qQ (fun n => (E103 n _ _).trans (X103_s _ _ _ _ _)) h
theorem qg9 (K : zKT) (N nl : Nat) (m2 : Nat) (x0 x1 x4 x6 : SV) (os : List SO) : Ku K N nl (m2 + 1) x0 x1 x4 x6 os = gcB nl [x0, x1, x4, x6] os fun xs os => Kv K N nl m2 xs os := by kernel_rfl
theorem XR {nl c : Nat} {Q : SV → List SO → Prop} {x0 x1 x4 x6 : SV} {os : List SO} (h : Ev (fun n => gcB nl [x0, x1, x4, x6] os fun xs os => Kv (qd prg n) (n + 1) nl (n + 1 - (c + 1)) xs os) Q) : Ev (fun n => Ku (qd prg n) (n + 1) nl (n + 1 - c) x0 x1 x4 x6 os) Q := zb (L := fun n m => Ku (qd prg n) (n + 1) nl m x0 x1 x4 x6 os) (fun n m => qg9 _ _ _ _ _ _ _ _ _) h
theorem qeN {nl : Nat} {Q : SV → List SO → Prop} {x0 x1 x4 x6 : SV} {os : List SO} (h : Ev (fun n => gcB nl [x0, x1, x4, x6] os fun xs os => Kv (qd prg n) (n + 1) nl (n + 1 - 1) xs os) Q) : Ev (fun n => Ku (qd prg n) (n + 1) nl (n + 1) x0 x1 x4 x6 os) Q := XR (c := 0) h
theorem qha (K : zKT) (N nl : Nat) (m2 : Nat) (x0 x1 x4 x6 : SV) (os : List SO) : Kv K N nl m2 [x0, x1, x4, x6] os = Wk K N nl m2 x0 x1 x4 x6 os := by kernel_rfl
theorem qeO {nl : Nat} {Q : SV → List SO → Prop} (m2 : Nat → Nat) {x0 x1 x4 x6 : SV} {os : List SO} (h : Ev (fun n => Wk (qd prg n) (n + 1) nl (m2 n) x0 x1 x4 x6 os) Q) : Ev (fun n => Kv (qd prg n) (n + 1) nl (m2 n) [x0, x1, x4, x6] os) Q := zV (fun n => qha _ _ _ _ _ _ _ _ _) h
theorem X104_s (K : zKT) (N nl : Nat) (x0 x1 : SV) (os : List SO) : X104 K N nl x0 x1 os = B104 K N nl x0 x1 os := by kernel_rfl
theorem E104 (n : Nat) (x0 x1 : SV) (os : List SO) : qd prg (n + 1) 104 [x0, x1] os = X104 (qd prg n) (n + 1) os.length x0 x1 os := by kernel_rfl
theorem U104 {Q : SV → List SO → Prop} {x0 x1 : SV} {os : List SO} {nl : Nat} (hnl : os.length = nl) (h : Ev (fun n => B104 (qd prg n) (n + 1) nl x0 x1 os) Q) : Ev (fun n => qd prg n 104 [x0, x1] os) Q := by subst hnl; exact qQ (fun n => (E104 n _ _ _).trans (X104_s _ _ _ _ _ _)) h
theorem X105_s (K : zKT) (N nl : Nat) (x0 x1 : SV) (os : List SO) : X105 K N nl x0 x1 os = B105 K N nl x0 x1 os := by kernel_rfl
theorem E105 (n : Nat) (x0 x1 : SV) (os : List SO) : qd prg (n + 1) 105 [x0, x1] os = X105 (qd prg n) (n + 1) os.length x0 x1 os := by kernel_rfl
theorem U105 {Q : SV → List SO → Prop} {x0 x1 : SV} {os : List SO} {nl : Nat} (hnl : os.length = nl) (h : Ev (fun n => B105 (qd prg n) (n + 1) nl x0 x1 os) Q) : Ev (fun n => qd prg n 105 [x0, x1] os) Q := by subst hnl; exact qQ (fun n => (E105 n _ _ _).trans (X105_s _ _ _ _ _ _)) h
theorem X106_s (K : zKT) (N nl : Nat) (x0 x1 x2 : SV) (os : List SO) : X106 K N nl x0 x1 x2 os = B106 K N nl x0 x1 x2 os := by kernel_rfl
theorem E106 (n : Nat) (x0 x1 x2 : SV) (os : List SO) : qd prg (n + 1) 106 [x0, x1, x2] os = X106 (qd prg n) (n + 1) os.length x0 x1 x2 os := by kernel_rfl
theorem U106 {Q : SV → List SO → Prop} {x0 x1 x2 : SV} {os : List SO} {nl : Nat} (hnl : os.length = nl) (h : Ev (fun n => B106 (qd prg n) (n + 1) nl x0 x1 x2 os) Q) : Ev (fun n => qd prg n 106 [x0, x1, x2] os) Q := by subst hnl; exact qQ (fun n => (E106 n _ _ _ _).trans (X106_s _ _ _ _ _ _ _)) h
theorem X107_s (K : zKT) (N nl : Nat) (x0 x1 x2 x3 : SV) (os : List SO) : X107 K N nl x0 x1 x2 x3 os = B107 K N nl x0 x1 x2 x3 os := by kernel_rfl
theorem E107 (n : Nat) (x0 x1 x2 x3 : SV) (os : List SO) : qd prg (n + 1) 107 [x0, x1, x2, x3] os = X107 (qd prg n) (n + 1) os.length x0 x1 x2 x3 os := by kernel_rfl
theorem U107 {Q : SV → List SO → Prop} {x0 x1 x2 x3 : SV} {os : List SO} {nl : Nat} (hnl : os.length = nl) (h : Ev (fun n => B107 (qd prg n) (n + 1) nl x0 x1 x2 x3 os) Q) : Ev (fun n => qd prg n 107 [x0, x1, x2, x3] os) Q := by subst hnl; exact qQ (fun n => (E107 n _ _ _ _ _).trans (X107_s _ _ _ _ _ _ _ _)) h
theorem E108 (n : Nat) (xs : List SV) (os : List SO) : qd prg (n + 1) 108 xs os = xd 2 16 xs os := by kernel_rfl
theorem E109 (n : Nat) (xs : List SV) (os : List SO) : qd prg (n + 1) 109 xs os = xd 2 16 xs os := by kernel_rfl
theorem X110_s (K : zKT) (N nl : Nat) (x0 : SV) (os : List SO) : X110 K N nl x0 os = B110 K N nl x0 os := by kernel_rfl
theorem E110 (n : Nat) (x0 : SV) (os : List SO) : qd prg (n + 1) 110 [x0] os = X110 (qd prg n) (n + 1) os.length x0 os := by kernel_rfl
theorem U110 {Q : SV → List SO → Prop} {x0 : SV} {os : List SO} {nl : Nat} (hnl : os.length = nl) (h : Ev (fun n => B110 (qd prg n) (n + 1) nl x0 os) Q) : Ev (fun n => qd prg n 110 [x0] os) Q := by subst hnl; exact qQ (fun n => (E110 n _ _).trans (X110_s _ _ _ _ _)) h
theorem X111_s (K : zKT) (N nl : Nat) (x0 : SV) (os : List SO) : X111 K N nl x0 os = B111 K N nl x0 os := by kernel_rfl
theorem E111 (n : Nat) (x0 : SV) (os : List SO) : qd prg (n + 1) 111 [x0] os = X111 (qd prg n) (n + 1) os.length x0 os := by kernel_rfl
theorem U111 {Q : SV → List SO → Prop} {x0 : SV} {os : List SO} {nl : Nat} (hnl : os.length = nl) (h : Ev (fun n => B111 (qd prg n) (n + 1) nl x0 os) Q) : Ev (fun n => qd prg n 111 [x0] os) Q := by subst hnl; exact qQ (fun n => (E111 n _ _).trans (X111_s _ _ _ _ _)) h
theorem qhb (K : zKT) (N nl : Nat) (m3 : Nat) (x3 x6 x7 x8 : SV) (os : List SO) : Kw K N nl (m3 + 1) x3 x6 x7 x8 os = Wl K N nl m3 x3 x6 x7 x8 os := by kernel_rfl
theorem qeP {nl c : Nat} {Q : SV → List SO → Prop} {x3 x6 x7 x8 : SV} {os : List SO} (h : Ev (fun n => Wl (qd prg n) (n + 1) nl (n + 1 - (c + 1)) x3 x6 x7 x8 os) Q) : Ev (fun n => Kw (qd prg n) (n + 1) nl (n + 1 - c) x3 x6 x7 x8 os) Q := zb (L := fun n m => Kw (qd prg n) (n + 1) nl m x3 x6 x7 x8 os) (fun n m => qhb _ _ _ _ _ _ _ _ _) h
theorem qk1 {nl : Nat} {Q : SV → List SO → Prop} {x3 x6 x7 x8 : SV} {os : List SO} (h : Ev (fun n => Wl (qd prg n) (n + 1) nl (n + 1 - 1) x3 x6 x7 x8 os) Q) : Ev (fun n => Kw (qd prg n) (n + 1) nl (n + 1) x3 x6 x7 x8 os) Q := qeP (c := 0) h
theorem X112_s (K : zKT) (N nl : Nat) (x0 : SV) (os : List SO) : X112 K N nl x0 os = B112 K N nl x0 os := by kernel_rfl
theorem E112 (n : Nat) (x0 : SV) (os : List SO) : qd prg (n + 1) 112 [x0] os = X112 (qd prg n) (n + 1) os.length x0 os := by kernel_rfl
theorem U112 {Q : SV → List SO → Prop} {x0 : SV} {os : List SO} {nl : Nat} (hnl : os.length = nl) (h : Ev (fun n => B112 (qd prg n) (n + 1) nl x0 os) Q) : Ev (fun n => qd prg n 112 [x0] os) Q := by subst hnl; exact qQ (fun n => (E112 n _ _).trans (X112_s _ _ _ _ _)) h
theorem X113_s (K : zKT) (N nl : Nat) (x0 x1 : SV) (os : List SO) : X113 K N nl x0 x1 os = B113 K N nl x0 x1 os := by kernel_rfl
theorem E113 (n : Nat) (x0 x1 : SV) (os : List SO) : qd prg (n + 1) 113 [x0, x1] os = X113 (qd prg n) (n + 1) os.length x0 x1 os := by kernel_rfl
theorem U113 {Q : SV → List SO → Prop} {x0 x1 : SV} {os : List SO} {nl : Nat} (hnl : os.length = nl) (h : Ev (fun n => B113 (qd prg n) (n + 1) nl x0 x1 os) Q) : Ev (fun n => qd prg n 113 [x0, x1] os) Q := by subst hnl; exact qQ (fun n => (E113 n _ _ _).trans (X113_s _ _ _ _ _ _)) h
theorem qhc (K : zKT) (N nl : Nat) (m2 : Nat) (x0 x1 x7 x8 : SV) (os : List SO) : Kx K N nl (m2 + 1) x0 x1 x7 x8 os = XK K N nl m2 x0 x1 x7 x8 os := by kernel_rfl
theorem qk2 {nl c : Nat} {Q : SV → List SO → Prop} {x0 x1 x7 x8 : SV} {os : List SO} (h : Ev (fun n => XK (qd prg n) (n + 1) nl (n + 1 - (c + 1)) x0 x1 x7 x8 os) Q) : Ev (fun n => Kx (qd prg n) (n + 1) nl (n + 1 - c) x0 x1 x7 x8 os) Q := zb (L := fun n m => Kx (qd prg n) (n + 1) nl m x0 x1 x7 x8 os) (fun n m => qhc _ _ _ _ _ _ _ _ _) h
theorem X114_s (K : zKT) (N nl : Nat) (x0 x1 : SV) (os : List SO) : X114 K N nl x0 x1 os = B114 K N nl x0 x1 os := by kernel_rfl
theorem E114 (n : Nat) (x0 x1 : SV) (os : List SO) : qd prg (n + 1) 114 [x0, x1] os = X114 (qd prg n) (n + 1) os.length x0 x1 os := by kernel_rfl
theorem U114 {Q : SV → List SO → Prop} {x0 x1 : SV} {os : List SO} {nl : Nat} (hnl : os.length = nl) (h : Ev (fun n => B114 (qd prg n) (n + 1) nl x0 x1 os) Q) : Ev (fun n => qd prg n 114 [x0, x1] os) Q := by subst hnl; exact qQ (fun n => (E114 n _ _ _).trans (X114_s _ _ _ _ _ _)) h
theorem X115_s (K : zKT) (N nl : Nat) (x0 : SV) (os : List SO) : X115 K N nl x0 os = B115 K N nl x0 os := by kernel_rfl
theorem E115 (n : Nat) (x0 : SV) (os : List SO) : qd prg (n + 1) 115 [x0] os = X115 (qd prg n) (n + 1) os.length x0 os := by kernel_rfl
theorem U115 {Q : SV → List SO → Prop} {x0 : SV} {os : List SO} {nl : Nat} (hnl : os.length = nl) (h : Ev (fun n => B115 (qd prg n) (n + 1) nl x0 os) Q) : Ev (fun n => qd prg n 115 [x0] os) Q := by subst hnl; exact qQ (fun n => (E115 n _ _).trans (X115_s _ _ _ _ _)) h
theorem X116_s (K : zKT) (N nl : Nat) (x0 : SV) (os : List SO) : X116 K N nl x0 os = B116 K N nl x0 os := by kernel_rfl
theorem E116 (n : Nat) (x0 : SV) (os : List SO) : qd prg (n + 1) 116 [x0] os = X116 (qd prg n) (n + 1) os.length x0 os := by kernel_rfl
theorem U116 {Q : SV → List SO → Prop} {x0 : SV} {os : List SO} {nl : Nat} (hnl : os.length = nl) (h : Ev (fun n => B116 (qd prg n) (n + 1) nl x0 os) Q) : Ev (fun n => qd prg n 116 [x0] os) Q := by subst hnl; exact qQ (fun n => (E116 n _ _).trans (X116_s _ _ _ _ _)) h
theorem qhd (K : zKT) (N nl : Nat) (m2 : Nat) (x0 x3 : SV) (os : List SO) : Ky K N nl (m2 + 1) x0 x3 os = XL K N nl m2 x0 x3 os := by kernel_rfl
theorem qk3 {nl c : Nat} {Q : SV → List SO → Prop} {x0 x3 : SV} {os : List SO} (h : Ev (fun n => XL (qd prg n) (n + 1) nl (n + 1 - (c + 1)) x0 x3 os) Q) : Ev (fun n => Ky (qd prg n) (n + 1) nl (n + 1 - c) x0 x3 os) Q := zb (L := fun n m => Ky (qd prg n) (n + 1) nl m x0 x3 os) (fun n m => qhd _ _ _ _ _ _ _) h
theorem X117_s (K : zKT) (N nl : Nat) (x0 : SV) (os : List SO) : X117 K N nl x0 os = B117 K N nl x0 os := by kernel_rfl
theorem E117 (n : Nat) (x0 : SV) (os : List SO) : qd prg (n + 1) 117 [x0] os = X117 (qd prg n) (n + 1) os.length x0 os := by kernel_rfl
theorem U117 {Q : SV → List SO → Prop} {x0 : SV} {os : List SO} {nl : Nat} (hnl : os.length = nl) (h : Ev (fun n => B117 (qd prg n) (n + 1) nl x0 os) Q) : Ev (fun n => qd prg n 117 [x0] os) Q := by subst hnl; exact qQ (fun n => (E117 n _ _).trans (X117_s _ _ _ _ _)) h
theorem qhe (K : zKT) (N nl : Nat) (m2 : Nat) (x0 x1 x5 : SV) (os : List SO) : Kz K N nl (m2 + 1) x0 x1 x5 os = gcB nl [x0, x1, x5] os fun xs os => KA K N nl m2 xs os := by kernel_rfl
theorem XS {nl c : Nat} {Q : SV → List SO → Prop} {x0 x1 x5 : SV} {os : List SO} (h : Ev (fun n => gcB nl [x0, x1, x5] os fun xs os => KA (qd prg n) (n + 1) nl (n + 1 - (c + 1)) xs os) Q) : Ev (fun n => Kz (qd prg n) (n + 1) nl (n + 1 - c) x0 x1 x5 os) Q := zb (L := fun n m => Kz (qd prg n) (n + 1) nl m x0 x1 x5 os) (fun n m => qhe _ _ _ _ _ _ _ _) h
theorem qeQ {nl : Nat} {Q : SV → List SO → Prop} {x0 x1 x5 : SV} {os : List SO} (h : Ev (fun n => gcB nl [x0, x1, x5] os fun xs os => KA (qd prg n) (n + 1) nl (n + 1 - 1) xs os) Q) : Ev (fun n => Kz (qd prg n) (n + 1) nl (n + 1) x0 x1 x5 os) Q := XS (c := 0) h
theorem qhf (K : zKT) (N nl : Nat) (m2 : Nat) (x0 x1 x5 : SV) (os : List SO) : KA K N nl m2 [x0, x1, x5] os = XM K N nl m2 x0 x1 x5 os := by kernel_rfl
theorem qk4 {nl : Nat} {Q : SV → List SO → Prop} (m2 : Nat → Nat) {x0 x1 x5 : SV} {os : List SO} (h : Ev (fun n => XM (qd prg n) (n + 1) nl (m2 n) x0 x1 x5 os) Q) : Ev (fun n => KA (qd prg n) (n + 1) nl (m2 n) [x0, x1, x5] os) Q := zV (fun n => qhf _ _ _ _ _ _ _ _) h
theorem X118_s (K : zKT) (N nl : Nat) (x0 x1 : SV) (os : List SO) : X118 K N nl x0 x1 os = B118 K N nl x0 x1 os := by kernel_rfl
theorem E118 (n : Nat) (x0 x1 : SV) (os : List SO) : qd prg (n + 1) 118 [x0, x1] os = X118 (qd prg n) (n + 1) os.length x0 x1 os := by kernel_rfl
theorem U118 {Q : SV → List SO → Prop} {x0 x1 : SV} {os : List SO} {nl : Nat} (hnl : os.length = nl) (h : Ev (fun n => B118 (qd prg n) (n + 1) nl x0 x1 os) Q) : Ev (fun n => qd prg n 118 [x0, x1] os) Q := by subst hnl; exact qQ (fun n => (E118 n _ _ _).trans (X118_s _ _ _ _ _ _)) h
end Go.Proofs.Ytfjbclgbpdlkgaa
