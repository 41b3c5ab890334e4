/- Fn3: a part of the proof that each law of this seat answers true at every input. No condition. -/
import Derived.Test.YtdnmpaielmfiiaaDoorHint
import Derived.KernelRfl
set_option linter.unusedVariables false
set_option linter.unusedSimpArgs false
set_option maxRecDepth 20000
section
namespace Go.Proofs.YtdnmpaielmfiiaaDoor
open Go Go.Ev
noncomputable section
def YN : Code := QO Tryd.f51
def VA : Ks := [(5,[0,1,5,6]),(6,[0,1,5,6])]
def Wt (O : Nat) : KC (Out × Qa) := QP Tryd.prog D true O 42 Tryd.f51.results.toList
def VF (O : Nat) (c : Code) (k : KC (Out × Qa)) (t : Ts) (H : Qa) (d : Ds) : Option (Out × Qa) := xC Tryd.prog O true VA E 42 c k t H d
def RS (O : Nat) (t0 t1 t5 t6 : V) (H : Qa) : Option (Out × Qa) :=
Qt (fun t H d again => VF O (cAt [1,1,1,0,1,0,0] YN) (Ql VA (cAt [1,1,1,0,1,0,0] YN) again ((Qe 0 ((Qg (fun _ t => VF O (cAt [1,1,1,1] YN) (Wt O) (Qf VA (cAt [1,1,1,1] YN) t)) (Wt O)))))) t H d) [(0,t0),(1,t1),(5,t5),(6,t6)] H []
def Gi (O : Nat) (t0 t1 t5 t6 : V) (H : Qa) : Option (Out × Qa) :=
VF O (cAt [1,1,1,0,1,0,0,1,1] YN) ((Ql VA (cAt [1,1,1,0,1,0,0] YN) (Qt (fun t H d again => VF O (cAt [1,1,1,0,1,0,0] YN) (Ql VA (cAt [1,1,1,0,1,0,0] YN) again ((Qe 0 ((Qg (fun _ t => VF O (cAt [1,1,1,1] YN) (Wt O) (Qf VA (cAt [1,1,1,1] YN) t)) (Wt O)))))) t H d)) ((Qe 0 ((Qg (fun _ t => VF O (cAt [1,1,1,1] YN) (Wt O) (Qf VA (cAt [1,1,1,1] YN) t)) (Wt O))))))) [(0,t0),(1,t1),(5,t5),(6,t6)] H []
theorem QoB (O : Nat) (t0 t1 t5 t6 : V) (H : Qa) : Gi O t0 t1 t5 t6 H =
 bnd (Qb .add 6 t6 (.int .i64 1)) fun v21 =>
 RS O t0 t1 t5 v21 H := by kernel_rfl
theorem QqN (O : Nat) (t0 t1 t5 t6 : V) (H : Qa) : RS O t0 t1 t5 t6 H =
 bnd (QM t0) fun v4 =>
 bnd (Qb .lss 6 t6 v4) fun v5 =>
 cnd v5
 (bnd (Qx 6 t0 t6) fun v6 =>
 bnd (Qc true 6 H v6) fun v7 =>
 beff (QD H (.agg [(.int .i64 0),(.int .u64 0),(.int .u64 0),(.int .u64 0),(.int .u64 0),.nils])) fun v8 h9 =>
 beff (Qs O 6 h9 v8 v7) fun v10 h11 =>
 bnd (Qc true 6 h11 v8) fun v12 =>
 bcall (J6 E t1 [v12] h11) (fun v13 h14 =>
 bnd (oUn .not v13) fun v15 =>
 cnd v15
 (bnd (Qc true 6 h14 v8) fun v16 =>
 bnd (Qx 6 t0 t5) fun v17 =>
 beff (Qs O 6 h14 v17 v16) fun v18 h19 =>
 bnd (Qb .add 6 t5 (.int .i64 1)) fun v20 =>
 Gi O t0 t1 v20 t6 h19)
 (Gi O t0 t1 t5 t6 h14))
 (fun v13 h14 => pn true O v13 h14))
 (bnd (JO 6 t0 (some t5) none none) fun v22 =>
 beff (N7 O 6 [(.int .i64 0),(.int .u64 0),(.int .u64 0),(.int .u64 0),(.int .u64 0),.nils] v22 H) fun v23 h24 =>
 bnd (JO 6 t0 none (some t5) none) fun v25 =>
 rt true O v25 h24) := (Za (cAt [1,1,1,0,1,0,0] YN) ((Qe 0 ((Qg (fun _ t => VF O (cAt [1,1,1,1] YN) (Wt O) (Qf VA (cAt [1,1,1,1] YN) t)) (Wt O))))) _ H []).trans (by kernel_rfl)
def Tu (O : Nat) (t0 t1 : V) (H : Qa) : Option (Out × Qa) := VF O YN (Wt O) [(0,t0),(1,t1)] H []
theorem Eo (O : Nat) (t0 t1 : V) (H : Qa) : Tu O t0 t1 H =
 bcall (E Ef [t0,t1] H) (fun v0 h1 =>
 bnd (Qb .eql 6 v0 (.int .i64 (-1))) fun v2 =>
 cnd v2
 (rt true O t0 h1)
 (bnd (Qb .add 6 v0 (.int .i64 1)) fun v3 =>
 RS O t0 t1 v0 v3 h1))
 (fun v0 h1 => pn true O v0 h1) := by kernel_rfl
theorem DK (t0 t1 : V) (H : Qa) : E UU [t0,t1] H = Tu H.length t0 t1 H := (QR Tryd.func51 (by kernel_rfl) (by kernel_rfl) (by kernel_rfl)).trans (by kernel_rfl)
def Qoc : Code := QO Tryd.f52
def QlY : Ks := []
def Qkn (O : Nat) : KC (Out × Qa) := QP Tryd.prog D false O 43 Tryd.f52.results.toList
def QlQ (O : Nat) (c : Code) (k : KC (Out × Qa)) (t : Ts) (H : Qa) (d : Ds) : Option (Out × Qa) := xC Tryd.prog O false QlY E 43 c k t H d
def Qe8 (O : Nat) (t0 t1 : V) (H : Qa) : Option (Out × Qa) := QlQ O Qoc (Qkn O) [(0,t0),(1,t1)] H []
theorem Qo0 (O : Nat) (t0 t1 : V) (H : Qa) : Qe8 O t0 t1 H =
 bnd (Kg t0) fun v0 =>
 bnd (Qq v0 1) fun v1 =>
 bnd (Qc false 1 H v1) fun v2 =>
 bnd (Qb .add 6 v2 (.int .i64 1)) fun v3 =>
 bnd (Kg t0) fun v4 =>
 bnd (Qq v4 1) fun v5 =>
 beff (Qs O 1 H v5 v3) fun v6 h7 =>
 bnd (Kg t0) fun v8 =>
 bnd (Qq v8 1) fun v9 =>
 bnd (Qc false 1 h7 v9) fun v10 =>
 bnd (Kg t0) fun v11 =>
 bnd (Qq v11 0) fun v12 =>
 bnd (Qc false 1 h7 v12) fun v13 =>
 bnd (QM v13) fun v14 =>
 bnd (Qb .gtr 6 v10 v14) fun v15 =>
 bnd (gua v15 false (QL t0) (some (.tup []))) fun v16 =>
 bnd (gua v15 false (Kg v16) (some (.tup []))) fun v17 =>
 bnd (gua v15 false (Qq v17 1) (some (.tup []))) fun v18 =>
 bnd (gua v15 false (Qc false 1 h7 v18) (some (.tup []))) fun v19 =>
 bnd (gua v15 false (Qb .gtr 6 v19 (.int .i64 150)) (some (.tup []))) fun v20 =>
 bnd (QY v15 (.bool true) v20) fun v21 =>
 cnd v21
 (rt false O (.int .i64 0) h7)
 (bnd (Kg t0) fun v22 =>
 bnd (Qq v22 0) fun v23 =>
 bnd (Qc false 1 h7 v23) fun v24 =>
 bnd (Kg t0) fun v25 =>
 bnd (Qq v25 1) fun v26 =>
 bnd (Qc false 1 h7 v26) fun v27 =>
 bnd (Qb .sub 6 v27 (.int .i64 1)) fun v28 =>
 bnd (Qx 1 v24 v28) fun v29 =>
 bnd (Qc false 1 h7 v29) fun v30 =>
 bnd (Yc .i64 v30) fun v31 =>
 bnd (Qb .rem 6 v31 t1) fun v32 =>
 rt false O v32 h7) := by kernel_rfl
theorem Qlz (t0 t1 : V) (H : Qa) : E VB [t0,t1] H = Qe8 H.length t0 t1 H := (QR Tryd.func52 (by kernel_rfl) (by kernel_rfl) (by kernel_rfl)).trans (by kernel_rfl)
def Qig : Code := QO Tryd.f53
def Ql2 : Ks := []
def QqW (O : Nat) : KC (Out × Qa) := QP Tryd.prog D false O 9 Tryd.f53.results.toList
def Qpv (O : Nat) (c : Code) (k : KC (Out × Qa)) (t : Ts) (H : Qa) (d : Ds) : Option (Out × Qa) := xC Tryd.prog O false Ql2 E 9 c k t H d
def QbO (O : Nat) (t0 t1 : V) (H : Qa) : Option (Out × Qa) := Qpv O Qig (QqW O) [(0,t0),(1,t1)] H []
theorem Qjw (O : Nat) (t0 t1 : V) (H : Qa) : QbO O t0 t1 H =
 beff (QD H (.agg [(.int .i64 0),(.int .u64 0),(.int .u64 0),(.int .u64 0),(.int .u64 0),.nils])) fun v0 h1 =>
 bcall (E BH [t0,t1] h1) (fun v2 h3 =>
 bnd (Zj [(.int .i64 0),(.int .u64 0),(.int .u64 0),(.int .u64 0),(.int .u64 0),.nils] [(0,1),(1,4),(5,1)] [(0,(.int .i64 2)),(1,v2)]) fun v4 =>
 beff (Qs O 6 h3 v0 v4) fun v5 h6 =>
 bnd (Qc true 6 h6 v0) fun v7 =>
 rt false O v7 h6)
 (fun v2 h3 => pn false O v2 h3) := by kernel_rfl
theorem QpL (t0 t1 : V) (H : Qa) : E EG [t0,t1] H = QbO H.length t0 t1 H := (QR Tryd.func53 (by kernel_rfl) (by kernel_rfl) (by kernel_rfl)).trans (by kernel_rfl)
def V1 : Code := QO Tryd.f54
def El : Ks := [(3,[0,1,2,7,8])]
def Nx (O : Nat) : KC (Out × Qa) := QP Tryd.prog D false O 21 Tryd.f54.results.toList
def Ph (O : Nat) (c : Code) (k : KC (Out × Qa)) (t : Ts) (H : Qa) (d : Ds) : Option (Out × Qa) := xC Tryd.prog O false El E 21 c k t H d
def P2 (O : Nat) (t0 t1 t2 t7 t8 : V) (H : Qa) : Option (Out × Qa) :=
Qt (fun t H d again => Ph O (cAt [1,1,0,1,0,0] V1) (Ql El (cAt [1,1,0,1,0,0] V1) again ((Qe 0 ((Qg (fun _ t => Ph O (cAt [1,1,1] V1) (Nx O) (Qf El (cAt [1,1,1] V1) t)) (Nx O)))))) t H d) [(0,t0),(1,t1),(2,t2),(7,t7),(8,t8)] H []
theorem Qb6 (O : Nat) (t0 t1 t2 t7 t8 : V) (H : Qa) : P2 O t0 t1 t2 t7 t8 H =
 bnd (Qb .lss 6 t8 t1) fun v0 =>
 cnd v0
 (bcall (E NU [t0,t2] H) (fun v1 h2 =>
 bnd (Zq 6 1 (.agg [(.int .i64 0),(.int .u64 0),(.int .u64 0),(.int .u64 0),(.int .u64 0),(.vs [])]) [(0,v1)]) fun v3 =>
 beff (Z1 O 6 64 true t7 v3 h2) fun v4 h5 =>
 bnd (Qb .add 6 t8 (.int .i64 1)) fun v6 =>
 P2 O t0 t1 t2 v4 v6 h5)
 (fun v1 h2 => pn false O v1 h2))
 (rt false O t7 H) := (Za (cAt [1,1,0,1,0,0] V1) ((Qe 0 ((Qg (fun _ t => Ph O (cAt [1,1,1] V1) (Nx O) (Qf El (cAt [1,1,1] V1) t)) (Nx O))))) _ H []).trans (by kernel_rfl)
def QfC (O : Nat) (t0 t1 t2 : V) (H : Qa) : Option (Out × Qa) := Ph O V1 (Nx O) [(0,t0),(1,t1),(2,t2)] H []
theorem QjE (O : Nat) (t0 t1 t2 : V) (H : Qa) : QfC O t0 t1 t2 H =
 P2 O t0 t1 t2 .nils (.int .i64 0) H := by kernel_rfl
theorem QlO (t0 t1 t2 : V) (H : Qa) : E FJ [t0,t1,t2] H = QfC H.length t0 t1 t2 H := (QR Tryd.func54 (by kernel_rfl) (by kernel_rfl) (by kernel_rfl)).trans (by kernel_rfl)
def YS : Code := QO Tryd.f55
def Vq : Ks := [(3,[2,3,4,5,6,7,12,13,14]),(4,[2,3,4,5,6,7,12,13,14])]
def Ww (O : Nat) : KC (Out × Qa) := QP Tryd.prog D false O 69 Tryd.f55.results.toList
def WY (O : Nat) (c : Code) (k : KC (Out × Qa)) (t : Ts) (H : Qa) (d : Ds) : Option (Out × Qa) := xC Tryd.prog O false Vq E 69 c k t H d
def BA (O : Nat) (t2 t3 t4 t5 t6 t7 t12 t13 t14 : V) (H : Qa) : Option (Out × Qa) :=
Qt (fun t H d again => WY O (cAt [1,1,0,1,0,0] YS) (Ql Vq (cAt [1,1,0,1,0,0] YS) again ((Qe 0 ((Qg (fun _ t => WY O (cAt [1,1,1] YS) (Ww O) (Qf Vq (cAt [1,1,1] YS) t)) (Ww O)))))) t H d) [(2,t2),(3,t3),(4,t4),(5,t5),(6,t6),(7,t7),(12,t12),(13,t13),(14,t14)] H []
def NN (O : Nat) (t2 t3 t4 t5 t6 t7 t12 t13 t14 : V) (H : Qa) : Option (Out × Qa) :=
WY O (cAt [1,1,0,1,0,0,1,1] YS) ((Ql Vq (cAt [1,1,0,1,0,0] YS) (Qt (fun t H d again => WY O (cAt [1,1,0,1,0,0] YS) (Ql Vq (cAt [1,1,0,1,0,0] YS) again ((Qe 0 ((Qg (fun _ t => WY O (cAt [1,1,1] YS) (Ww O) (Qf Vq (cAt [1,1,1] YS) t)) (Ww O)))))) t H d)) ((Qe 0 ((Qg (fun _ t => WY O (cAt [1,1,1] YS) (Ww O) (Qf Vq (cAt [1,1,1] YS) t)) (Ww O))))))) [(2,t2),(3,t3),(4,t4),(5,t5),(6,t6),(7,t7),(12,t12),(13,t13),(14,t14)] H []
theorem XS (O : Nat) (t2 t3 t4 t5 t6 t7 t12 t13 t14 : V) (H : Qa) : NN O t2 t3 t4 t5 t6 t7 t12 t13 t14 H =
 bnd (Qb .add 6 t14 (.int .i64 1)) fun v52 =>
 BA O t2 t3 t4 t5 t6 t7 t12 t13 v52 H := by kernel_rfl
theorem QmJ (O : Nat) (t2 t3 t4 t5 t6 t7 t12 t13 t14 : V) (H : Qa) : BA O t2 t3 t4 t5 t6 t7 t12 t13 t14 H =
 bnd (Qb .lss 6 t14 (.int .i64 256)) fun v8 =>
 cnd v8
 (bnd (Qc true 4 H t6) fun v9 =>
 bcall (E Vy [v9,t14] H) (fun v10 h11 =>
 bnd (bnd (Qc true 4 h11 t7) fun v12 => sch (sam (Qc true 4 H t7) v12) (
 some v12)) fun v12 =>
 bcall (E Vy [v12,t14] h11) (fun v13 h14 =>
 bnd (oUn .not v10) fun v15 =>
 bnd (gua v15 true (QL v13) (some (.tup []))) fun v16 =>
 bnd (gua v15 true (oUn .not v16) (some (.tup []))) fun v17 =>
 bnd (QY v15 v17 (.bool false)) fun v18 =>
 bnd (gua v18 true (QL t2) (some (.tup []))) fun v19 =>
 bnd (QY v18 v19 (.bool false)) fun v20 =>
 bnd (gua v20 false (QL v10) (some (.tup []))) fun v21 =>
 bnd (gua v20 false (QL v21) (some (.tup []))) fun v22 =>
 bnd (gua v22 true (QL v13) (some (.tup []))) fun v23 =>
 bnd (gua v22 true (oUn .not v23) (some (.tup []))) fun v24 =>
 bnd (gua v20 false (QY v22 v24 (.bool false)) (some (.tup []))) fun v25 =>
 bnd (gua v20 false (QL v25) (some (.tup []))) fun v26 =>
 bnd (gua v26 true (QL t3) (some (.tup []))) fun v27 =>
 bnd (gua v20 false (QY v26 v27 (.bool false)) (some (.tup []))) fun v28 =>
 bnd (QY v20 (.bool true) v28) fun v29 =>
 bnd (gua v29 false (QL v10) (some (.tup []))) fun v30 =>
 bnd (gua v29 false (oUn .not v30) (some (.tup []))) fun v31 =>
 bnd (gua v29 false (QL v31) (some (.tup []))) fun v32 =>
 bnd (gua v32 true (QL v13) (some (.tup []))) fun v33 =>
 bnd (gua v29 false (QY v32 v33 (.bool false)) (some (.tup []))) fun v34 =>
 bnd (gua v29 false (QL v34) (some (.tup []))) fun v35 =>
 bnd (gua v35 true (QL t4) (some (.tup []))) fun v36 =>
 bnd (gua v29 false (QY v35 v36 (.bool false)) (some (.tup []))) fun v37 =>
 bnd (QY v29 (.bool true) v37) fun v38 =>
 bnd (gua v38 false (QL v10) (some (.tup []))) fun v39 =>
 bnd (gua v38 false (QL v39) (some (.tup []))) fun v40 =>
 bnd (gua v40 true (QL v13) (some (.tup []))) fun v41 =>
 bnd (gua v38 false (QY v40 v41 (.bool false)) (some (.tup []))) fun v42 =>
 bnd (gua v38 false (QL v42) (some (.tup []))) fun v43 =>
 bnd (gua v43 true (QL t5) (some (.tup []))) fun v44 =>
 bnd (gua v38 false (QY v43 v44 (.bool false)) (some (.tup []))) fun v45 =>
 bnd (QY v38 (.bool true) v45) fun v46 =>
 cnd v46
 (bnd (Qc true 4 h14 t13) fun v47 =>
 bcall (E Eg [v47,t14] h14) (fun v48 h49 =>
 beff (Qs O 4 h49 t13 v48) fun v50 h51 =>
 NN O t2 t3 t4 t5 t6 t7 t12 t13 t14 h51)
 (fun v48 h49 => pn false O v48 h49))
 (NN O t2 t3 t4 t5 t6 t7 t12 t13 t14 h14))
 (fun v13 h14 => pn false O v13 h14))
 (fun v10 h11 => sch (tlb (Qc true 4 H t7) fun v53 => tlb (QL t14) fun v54 => true) (pn false O v10 h11)))
 (bnd (Qc true 4 H t13) fun v55 =>
 beff (Qs O 4 H t12 v55) fun v56 h57 =>
 bnd (Qc true 4 h57 t12) fun v58 =>
 rt false O v58 h57) := (Za (cAt [1,1,0,1,0,0] YS) ((Qe 0 ((Qg (fun _ t => WY O (cAt [1,1,1] YS) (Ww O) (Qf Vq (cAt [1,1,1] YS) t)) (Ww O))))) _ H []).trans (by kernel_rfl)
def TI (O : Nat) (t0 t1 t2 t3 t4 t5 : V) (H : Qa) : Option (Out × Qa) := WY O YS (Ww O) [(0,t0),(1,t1),(2,t2),(3,t3),(4,t4),(5,t5)] H []
theorem QlH (O : Nat) (t0 t1 t2 t3 t4 t5 : V) (H : Qa) : TI O t0 t1 t2 t3 t4 t5 H =
 beff (QD H t0) fun v0 h1 =>
 beff (QD h1 t1) fun v2 h3 =>
 beff (QD h3 (.agg [(.int .u64 0),(.int .u64 0),(.int .u64 0),(.int .u64 0)])) fun v4 h5 =>
 beff (QD h5 (.agg [(.int .u64 0),(.int .u64 0),(.int .u64 0),(.int .u64 0)])) fun v6 h7 =>
 BA O t2 t3 t4 t5 v0 v2 v4 v6 (.int .i64 0) h7 := by kernel_rfl
theorem Qot (t0 t1 t2 t3 t4 t5 : V) (H : Qa) : E Cv [t0,t1,t2,t3,t4,t5] H = TI H.length t0 t1 t2 t3 t4 t5 H := (QR Tryd.func55 (by kernel_rfl) (by kernel_rfl) (by kernel_rfl)).trans (by kernel_rfl)
def Qp : Code := QO Tryd.f56
def QT : Ks := [(10,[3,4,5]),(14,[3,4,5]),(11,[3,4,5]),(18,[1,3,6]),(23,[1,3,7]),(27,[1,3,7]),(24,[1,3,7])]
def QS (O : Nat) : KC (Out × Qa) := QP Tryd.prog D false O 100 Tryd.f56.results.toList
def QV (O : Nat) (c : Code) (k : KC (Out × Qa)) (t : Ts) (H : Qa) (d : Ds) : Option (Out × Qa) := xC Tryd.prog O false QT E 100 c k t H d
def Pw (O : Nat) (t3 t4 t5 : V) (H : Qa) : Option (Out × Qa) :=
Qt (fun t H d again => QV O (cAt [1,1,0,1,0,1,1,1,1,1,0,1,0,1,0,0] Qp) (Ql QT (cAt [1,1,0,1,0,1,1,1,1,1,0,1,0,1,0,0] Qp) again ((Qe 1 ((Qg (fun _ t => QV O (cAt [1,1,0,1,0,1,1,1,1,1,0,1,1] Qp) ((Qe 0 ((Qg (fun _ t => QV O (cAt [1,1,1] Qp) (QS O) (Qf QT (cAt [1,1,1] Qp) t)) (QS O))))) (Qf QT (cAt [1,1,0,1,0,1,1,1,1,1,0,1,1] Qp) t)) ((Qe 0 ((Qg (fun _ t => QV O (cAt [1,1,1] Qp) (QS O) (Qf QT (cAt [1,1,1] Qp) t)) (QS O)))))))))) t H d) [(3,t3),(4,t4),(5,t5)] H []
def Tl (O : Nat) (t3 t4 t5 : V) (H : Qa) : Option (Out × Qa) :=
QV O (cAt [1,1,0,1,0,1,1,1,1,1,0,1,0,1,0,0,1,1] Qp) ((Ql QT (cAt [1,1,0,1,0,1,1,1,1,1,0,1,0,1,0,0] Qp) (Qt (fun t H d again => QV O (cAt [1,1,0,1,0,1,1,1,1,1,0,1,0,1,0,0] Qp) (Ql QT (cAt [1,1,0,1,0,1,1,1,1,1,0,1,0,1,0,0] Qp) again ((Qe 1 ((Qg (fun _ t => QV O (cAt [1,1,0,1,0,1,1,1,1,1,0,1,1] Qp) ((Qe 0 ((Qg (fun _ t => QV O (cAt [1,1,1] Qp) (QS O) (Qf QT (cAt [1,1,1] Qp) t)) (QS O))))) (Qf QT (cAt [1,1,0,1,0,1,1,1,1,1,0,1,1] Qp) t)) ((Qe 0 ((Qg (fun _ t => QV O (cAt [1,1,1] Qp) (QS O) (Qf QT (cAt [1,1,1] Qp) t)) (QS O)))))))))) t H d)) ((Qe 1 ((Qg (fun _ t => QV O (cAt [1,1,0,1,0,1,1,1,1,1,0,1,1] Qp) ((Qe 0 ((Qg (fun _ t => QV O (cAt [1,1,1] Qp) (QS O) (Qf QT (cAt [1,1,1] Qp) t)) (QS O))))) (Qf QT (cAt [1,1,0,1,0,1,1,1,1,1,0,1,1] Qp) t)) ((Qe 0 ((Qg (fun _ t => QV O (cAt [1,1,1] Qp) (QS O) (Qf QT (cAt [1,1,1] Qp) t)) (QS O))))))))))) [(3,t3),(4,t4),(5,t5)] H []
theorem QnV (O : Nat) (t3 t4 t5 : V) (H : Qa) : Tl O t3 t4 t5 H =
 bnd (Qb .add 6 t5 (.int .i64 1)) fun v28 =>
 Pw O t3 t4 v28 H := by kernel_rfl
def Pd (O : Nat) (t3 t4 t5 : V) (H : Qa) : Option (Out × Qa) :=
QV O (cAt [1,1,0,1,0,1,1,1,1,1,0,1,0,1,0,0,1,0,0,1] Qp) ((Qe 2 ((Qg (fun _ t => QV O (cAt [1,1,0,1,0,1,1,1,1,1,0,1,0,1,0,0,1,1] Qp) ((Ql QT (cAt [1,1,0,1,0,1,1,1,1,1,0,1,0,1,0,0] Qp) (Qt (fun t H d again => QV O (cAt [1,1,0,1,0,1,1,1,1,1,0,1,0,1,0,0] Qp) (Ql QT (cAt [1,1,0,1,0,1,1,1,1,1,0,1,0,1,0,0] Qp) again ((Qe 1 ((Qg (fun _ t => QV O (cAt [1,1,0,1,0,1,1,1,1,1,0,1,1] Qp) ((Qe 0 ((Qg (fun _ t => QV O (cAt [1,1,1] Qp) (QS O) (Qf QT (cAt [1,1,1] Qp) t)) (QS O))))) (Qf QT (cAt [1,1,0,1,0,1,1,1,1,1,0,1,1] Qp) t)) ((Qe 0 ((Qg (fun _ t => QV O (cAt [1,1,1] Qp) (QS O) (Qf QT (cAt [1,1,1] Qp) t)) (QS O)))))))))) t H d)) ((Qe 1 ((Qg (fun _ t => QV O (cAt [1,1,0,1,0,1,1,1,1,1,0,1,1] Qp) ((Qe 0 ((Qg (fun _ t => QV O (cAt [1,1,1] Qp) (QS O) (Qf QT (cAt [1,1,1] Qp) t)) (QS O))))) (Qf QT (cAt [1,1,0,1,0,1,1,1,1,1,0,1,1] Qp) t)) ((Qe 0 ((Qg (fun _ t => QV O (cAt [1,1,1] Qp) (QS O) (Qf QT (cAt [1,1,1] Qp) t)) (QS O))))))))))) (Qf QT (cAt [1,1,0,1,0,1,1,1,1,1,0,1,0,1,0,0,1,1] Qp) t)) ((Ql QT (cAt [1,1,0,1,0,1,1,1,1,1,0,1,0,1,0,0] Qp) (Qt (fun t H d again => QV O (cAt [1,1,0,1,0,1,1,1,1,1,0,1,0,1,0,0] Qp) (Ql QT (cAt [1,1,0,1,0,1,1,1,1,1,0,1,0,1,0,0] Qp) again ((Qe 1 ((Qg (fun _ t => QV O (cAt [1,1,0,1,0,1,1,1,1,1,0,1,1] Qp) ((Qe 0 ((Qg (fun _ t => QV O (cAt [1,1,1] Qp) (QS O) (Qf QT (cAt [1,1,1] Qp) t)) (QS O))))) (Qf QT (cAt [1,1,0,1,0,1,1,1,1,1,0,1,1] Qp) t)) ((Qe 0 ((Qg (fun _ t => QV O (cAt [1,1,1] Qp) (QS O) (Qf QT (cAt [1,1,1] Qp) t)) (QS O)))))))))) t H d)) ((Qe 1 ((Qg (fun _ t => QV O (cAt [1,1,0,1,0,1,1,1,1,1,0,1,1] Qp) ((Qe 0 ((Qg (fun _ t => QV O (cAt [1,1,1] Qp) (QS O) (Qf QT (cAt [1,1,1] Qp) t)) (QS O))))) (Qf QT (cAt [1,1,0,1,0,1,1,1,1,1,0,1,1] Qp) t)) ((Qe 0 ((Qg (fun _ t => QV O (cAt [1,1,1] Qp) (QS O) (Qf QT (cAt [1,1,1] Qp) t)) (QS O))))))))))))))) [(3,t3),(4,t4),(5,t5)] H []
theorem QlL (O : Nat) (t3 t4 t5 : V) (H : Qa) : Pd O t3 t4 t5 H =
 bnd (Qx 2 t4 t5) fun v15 =>
 bnd (Qq v15 0) fun v16 =>
 bnd (Qc false 1 H v16) fun v17 =>
 bcall (E BF [v17] H) (fun v18 h19 =>
 bnd (Qb .add 6 t3 v18) fun v20 =>
 bnd (Qb .add 6 v20 (.str [45])) fun v21 =>
 bnd (Qx 2 t4 t5) fun v22 =>
 bnd (Qq v22 1) fun v23 =>
 bnd (bnd (Qc false 1 h19 v23) fun v24 => sch (sam (Qc false 1 H v23) v24) (
 some v24)) fun v24 =>
 bcall (E BF [v24] h19) (fun v25 h26 =>
 bnd (Qb .add 6 v21 v25) fun v27 =>
 Tl O v27 t4 t5 h26)
 (fun v25 h26 => pn false O v25 h26))
 (fun v18 h19 => sch (tlb (QL t4) fun v29 => tlb (QL t5) fun v30 => tlb (Qx 2 v29 v30) fun v31 => tlb (Qq v31 1) fun v32 => tlb (Qc false 1 H v32) fun v33 => true) (pn false O v18 h19)) := by kernel_rfl
theorem Qmc (O : Nat) (t3 t4 t5 : V) (H : Qa) : Pw O t3 t4 t5 H =
 bnd (QM t4) fun v11 =>
 bnd (Qb .lss 6 t5 v11) fun v12 =>
 cnd v12
 (bnd (Qb .gtr 6 t5 (.int .i64 0)) fun v13 =>
 cnd v13
 (bnd (Qb .add 6 t3 (.str [44])) fun v14 =>
 Pd O v14 t4 t5 H)
 (Pd O t3 t4 t5 H))
 (bnd (Qb .add 6 (.str [91]) t3) fun v34 =>
 bnd (Qb .add 6 v34 (.str [93])) fun v35 =>
 rt false O v35 H) := (Za (cAt [1,1,0,1,0,1,1,1,1,1,0,1,0,1,0,0] Qp) ((Qe 1 ((Qg (fun _ t => QV O (cAt [1,1,0,1,0,1,1,1,1,1,0,1,1] Qp) ((Qe 0 ((Qg (fun _ t => QV O (cAt [1,1,1] Qp) (QS O) (Qf QT (cAt [1,1,1] Qp) t)) (QS O))))) (Qf QT (cAt [1,1,0,1,0,1,1,1,1,1,0,1,1] Qp) t)) ((Qe 0 ((Qg (fun _ t => QV O (cAt [1,1,1] Qp) (QS O) (Qf QT (cAt [1,1,1] Qp) t)) (QS O))))))))) _ H []).trans (by kernel_rfl)
def L9 (O : Nat) (t1 t3 t6 : V) (H : Qa) : Option (Out × Qa) :=
Qt (fun t H d again => QV O (cAt [1,1,0,1,0,1,1,1,1,1,1,1,0,0,1,0,0] Qp) (Ql QT (cAt [1,1,0,1,0,1,1,1,1,1,1,1,0,0,1,0,0] Qp) again ((Qe 3 ((Qg (fun _ t => QV O (cAt [1,1,0,1,0,1,1,1,1,1,1,1,0,1] Qp) ((Qe 0 ((Qg (fun _ t => QV O (cAt [1,1,1] Qp) (QS O) (Qf QT (cAt [1,1,1] Qp) t)) (QS O))))) (Qf QT (cAt [1,1,0,1,0,1,1,1,1,1,1,1,0,1] Qp) t)) ((Qe 0 ((Qg (fun _ t => QV O (cAt [1,1,1] Qp) (QS O) (Qf QT (cAt [1,1,1] Qp) t)) (QS O)))))))))) t H d) [(1,t1),(3,t3),(6,t6)] H []
theorem QnS (O : Nat) (t1 t3 t6 : V) (H : Qa) : L9 O t1 t3 t6 H =
 bnd (Qq t1 5) fun v37 =>
 bnd (Qc false 1 H v37) fun v38 =>
 bnd (QM v38) fun v39 =>
 bnd (Qb .lss 6 t6 v39) fun v40 =>
 cnd v40
 (bnd (Qq t1 5) fun v41 =>
 bnd (Qc false 1 H v41) fun v42 =>
 bnd (Qx 6 v42 t6) fun v43 =>
 bnd (Qc true 6 H v43) fun v44 =>
 bcall (E K1 [v44] H) (fun v45 h46 =>
 bnd (Qb .add 6 t3 v45) fun v47 =>
 bnd (Qb .add 6 t6 (.int .i64 1)) fun v48 =>
 L9 O t1 v47 v48 h46)
 (fun v45 h46 => pn false O v45 h46))
 (bnd (Qb .add 6 t3 (.str [42])) fun v49 =>
 rt false O v49 H) := (Za (cAt [1,1,0,1,0,1,1,1,1,1,1,1,0,0,1,0,0] Qp) ((Qe 3 ((Qg (fun _ t => QV O (cAt [1,1,0,1,0,1,1,1,1,1,1,1,0,1] Qp) ((Qe 0 ((Qg (fun _ t => QV O (cAt [1,1,1] Qp) (QS O) (Qf QT (cAt [1,1,1] Qp) t)) (QS O))))) (Qf QT (cAt [1,1,0,1,0,1,1,1,1,1,1,1,0,1] Qp) t)) ((Qe 0 ((Qg (fun _ t => QV O (cAt [1,1,1] Qp) (QS O) (Qf QT (cAt [1,1,1] Qp) t)) (QS O))))))))) _ H []).trans (by kernel_rfl)
def LG (O : Nat) (t1 t3 t7 : V) (H : Qa) : Option (Out × Qa) :=
Qt (fun t H d again => QV O (cAt [1,1,1,0,1,0,0] Qp) (Ql QT (cAt [1,1,1,0,1,0,0] Qp) again ((Qe 5 ((Qg (fun _ t => QV O (cAt [1,1,1,1] Qp) (QS O) (Qf QT (cAt [1,1,1,1] Qp) t)) (QS O)))))) t H d) [(1,t1),(3,t3),(7,t7)] H []
def QgY (O : Nat) (t1 t3 t7 : V) (H : Qa) : Option (Out × Qa) :=
QV O (cAt [1,1,1,0,1,0,0,1,1] Qp) ((Ql QT (cAt [1,1,1,0,1,0,0] Qp) (Qt (fun t H d again => QV O (cAt [1,1,1,0,1,0,0] Qp) (Ql QT (cAt [1,1,1,0,1,0,0] Qp) again ((Qe 5 ((Qg (fun _ t => QV O (cAt [1,1,1,1] Qp) (QS O) (Qf QT (cAt [1,1,1,1] Qp) t)) (QS O)))))) t H d)) ((Qe 5 ((Qg (fun _ t => QV O (cAt [1,1,1,1] Qp) (QS O) (Qf QT (cAt [1,1,1,1] Qp) t)) (QS O))))))) [(1,t1),(3,t3),(7,t7)] H []
theorem QoJ (O : Nat) (t1 t3 t7 : V) (H : Qa) : QgY O t1 t3 t7 H =
 bnd (Qb .add 6 t7 (.int .i64 1)) fun v67 =>
 LG O t1 t3 v67 H := by kernel_rfl
def PV (O : Nat) (t1 t3 t7 : V) (H : Qa) : Option (Out × Qa) :=
QV O (cAt [1,1,1,0,1,0,0,1,0,0,1] Qp) ((Qe 6 ((Qg (fun _ t => QV O (cAt [1,1,1,0,1,0,0,1,1] Qp) ((Ql QT (cAt [1,1,1,0,1,0,0] Qp) (Qt (fun t H d again => QV O (cAt [1,1,1,0,1,0,0] Qp) (Ql QT (cAt [1,1,1,0,1,0,0] Qp) again ((Qe 5 ((Qg (fun _ t => QV O (cAt [1,1,1,1] Qp) (QS O) (Qf QT (cAt [1,1,1,1] Qp) t)) (QS O)))))) t H d)) ((Qe 5 ((Qg (fun _ t => QV O (cAt [1,1,1,1] Qp) (QS O) (Qf QT (cAt [1,1,1,1] Qp) t)) (QS O))))))) (Qf QT (cAt [1,1,1,0,1,0,0,1,1] Qp) t)) ((Ql QT (cAt [1,1,1,0,1,0,0] Qp) (Qt (fun t H d again => QV O (cAt [1,1,1,0,1,0,0] Qp) (Ql QT (cAt [1,1,1,0,1,0,0] Qp) again ((Qe 5 ((Qg (fun _ t => QV O (cAt [1,1,1,1] Qp) (QS O) (Qf QT (cAt [1,1,1,1] Qp) t)) (QS O)))))) t H d)) ((Qe 5 ((Qg (fun _ t => QV O (cAt [1,1,1,1] Qp) (QS O) (Qf QT (cAt [1,1,1,1] Qp) t)) (QS O))))))))))) [(1,t1),(3,t3),(7,t7)] H []
theorem Qmd (O : Nat) (t1 t3 t7 : V) (H : Qa) : PV O t1 t3 t7 H =
 bnd (Qq t1 5) fun v60 =>
 bnd (Qc false 1 H v60) fun v61 =>
 bnd (Qx 6 v61 t7) fun v62 =>
 bnd (Qc true 6 H v62) fun v63 =>
 bcall (E K1 [v63] H) (fun v64 h65 =>
 bnd (Qb .add 6 t3 v64) fun v66 =>
 QgY O t1 v66 t7 h65)
 (fun v64 h65 => pn false O v64 h65) := by kernel_rfl
theorem QmY (O : Nat) (t1 t3 t7 : V) (H : Qa) : LG O t1 t3 t7 H =
 bnd (Qq t1 5) fun v50 =>
 bnd (Qc false 1 H v50) fun v51 =>
 bnd (QM v51) fun v52 =>
 bnd (Qb .lss 6 t7 v52) fun v53 =>
 cnd v53
 (bnd (Qb .gtr 6 t7 (.int .i64 0)) fun v54 =>
 bnd (gua v54 true (Qq t1 0) (some (.tup []))) fun v55 =>
 bnd (gua v54 true (Qc false 1 H v55) (some (.tup []))) fun v56 =>
 bnd (gua v54 true (Qb .neq 6 v56 (.int .i64 3)) (some (.tup []))) fun v57 =>
 bnd (QY v54 v57 (.bool false)) fun v58 =>
 cnd v58
 (bnd (Qb .add 6 t3 (.str [124])) fun v59 =>
 PV O t1 v59 t7 H)
 (PV O t1 t3 t7 H))
 (bnd (Qq t1 0) fun v68 =>
 bnd (Qc false 1 H v68) fun v69 =>
 bnd (Qb .eql 6 v69 (.int .i64 3)) fun v70 =>
 cnd v70
 (bnd (Qb .add 6 (.str [40]) t3) fun v71 =>
 bnd (Qb .add 6 v71 (.str [41])) fun v72 =>
 rt false O v72 H)
 (bnd (Qb .add 6 (.str [123]) t3) fun v73 =>
 bnd (Qb .add 6 v73 (.str [125])) fun v74 =>
 rt false O v74 H)) := (Za (cAt [1,1,1,0,1,0,0] Qp) ((Qe 5 ((Qg (fun _ t => QV O (cAt [1,1,1,1] Qp) (QS O) (Qf QT (cAt [1,1,1,1] Qp) t)) (QS O))))) _ H []).trans (by kernel_rfl)
def QdR (O : Nat) (t0 : V) (H : Qa) : Option (Out × Qa) := QV O Qp (QS O) [(0,t0)] H []
theorem QnG (O : Nat) (t0 : V) (H : Qa) : QdR O t0 H =
 beff (QD H t0) fun v0 h1 =>
 bnd (Qq v0 0) fun v2 =>
 bnd (Qc false 1 h1 v2) fun v3 =>
 bnd (Qb .eql 6 v3 (.int .i64 0)) fun v4 =>
 cnd v4
 (rt false O (.str [48]) h1)
 (bnd (Qb .eql 6 v3 (.int .i64 1)) fun v5 =>
 cnd v5
 (rt false O (.str [49]) h1)
 (bnd (Qb .eql 6 v3 (.int .i64 2)) fun v6 =>
 cnd v6
 (bnd (Qq v0 1) fun v7 =>
 bnd (Qc true 4 h1 v7) fun v8 =>
 bcall (E DO [v8] h1) (fun v9 h10 =>
 Pw O (.str []) v9 (.int .i64 0) h10)
 (fun v9 h10 => pn false O v9 h10))
 (bnd (Qb .eql 6 v3 (.int .i64 5)) fun v36 =>
 cnd v36
 (L9 O v0 (.str []) (.int .i64 0) h1)
 (LG O v0 (.str []) (.int .i64 0) h1)))) := by kernel_rfl
theorem QkR (t0 : V) (H : Qa) : E K1 [t0] H = QdR H.length t0 H := (QR Tryd.func56 (by kernel_rfl) (by kernel_rfl) (by kernel_rfl)).trans (by kernel_rfl)
def WM : Code := QO Tryd.f59
def Fo : Ks := [(2,[2,4,7,8])]
def NG (O : Nat) : KC (Out × Qa) := QP Tryd.prog D false O 20 Tryd.f59.results.toList
def LV (O : Nat) (c : Code) (k : KC (Out × Qa)) (t : Ts) (H : Qa) (d : Ds) : Option (Out × Qa) := xC Tryd.prog O false Fo E 20 c k t H d
def AH (O : Nat) (t2 t4 t7 t8 : V) (H : Qa) : Option (Out × Qa) :=
Qt (fun t H d again => LV O (cAt [1,0,1,0,0] WM) (Ql Fo (cAt [1,0,1,0,0] WM) again ((Qe 0 ((Qg (fun _ t => LV O (cAt [1,1] WM) (NG O) (Qf Fo (cAt [1,1] WM) t)) (NG O)))))) t H d) [(2,t2),(4,t4),(7,t7),(8,t8)] H []
theorem MH (O : Nat) (t2 t4 t7 t8 : V) (H : Qa) : AH O t2 t4 t7 t8 H =
 bnd (Qb .lss 6 t8 (.int .i64 4)) fun v7 =>
 cnd v7
 (bnd (Ee 4 false 1 t7 t8) fun v8 =>
 bnd (Wl 4 1 t2 t8) fun v9 =>
 bnd (Qc false 1 H v9) fun v10 =>
 bnd (Qb .or 6 v10 v8) fun v11 =>
 bnd (Wl 4 1 t2 t8) fun v12 =>
 beff (Qs O 1 H v12 v11) fun v13 h14 =>
 bnd (Qb .add 6 t8 (.int .i64 1)) fun v15 =>
 AH O t2 t4 t7 v15 h14)
 (bnd (Qc true 4 H t2) fun v16 =>
 beff (Qs O 4 H t4 v16) fun v17 h18 =>
 bnd (Qc true 4 h18 t4) fun v19 =>
 rt false O v19 h18) := (Za (cAt [1,0,1,0,0] WM) ((Qe 0 ((Qg (fun _ t => LV O (cAt [1,1] WM) (NG O) (Qf Fo (cAt [1,1] WM) t)) (NG O))))) _ H []).trans (by kernel_rfl)
def XY (O : Nat) (t0 t1 : V) (H : Qa) : Option (Out × Qa) := LV O WM (NG O) [(0,t0),(1,t1)] H []
theorem Qm2 (O : Nat) (t0 t1 : V) (H : Qa) : XY O t0 t1 H =
 beff (QD H t0) fun v0 h1 =>
 beff (QD h1 t1) fun v2 h3 =>
 beff (QD h3 (.agg [(.int .u64 0),(.int .u64 0),(.int .u64 0),(.int .u64 0)])) fun v4 h5 =>
 bnd (Qc true 4 h5 v2) fun v6 =>
 AH O v0 v4 v6 (.int .i64 0) h5 := by kernel_rfl
theorem Qmj (t0 t1 : V) (H : Qa) : E D5 [t0,t1] H = XY H.length t0 t1 H := (QR Tryd.func59 (by kernel_rfl) (by kernel_rfl) (by kernel_rfl)).trans (by kernel_rfl)
def QqK : Code := QO Tryd.f60
def Qi6 : Ks := []
def Qom (O : Nat) : KC (Out × Qa) := QP Tryd.prog D false O 9 Tryd.f60.results.toList
def QnT (O : Nat) (c : Code) (k : KC (Out × Qa)) (t : Ts) (H : Qa) (d : Ds) : Option (Out × Qa) := xC Tryd.prog O false Qi6 E 9 c k t H d
def QbT (O : Nat) (t0 : V) (H : Qa) : Option (Out × Qa) := QnT O QqK (Qom O) [(0,t0)] H []
theorem Qpy (O : Nat) (t0 : V) (H : Qa) : QbT O t0 H =
 beff (QD H t0) fun v0 h1 =>
 beff (QD h1 (.agg [(.int .i64 0),(.int .u64 0),(.int .u64 0),(.int .u64 0),(.int .u64 0),.nils])) fun v2 h3 =>
 bnd (Qc true 4 h3 v0) fun v4 =>
 bnd (NT [(.int .u64 0),(.int .u64 0),(.int .u64 0),(.int .u64 0)] 1 []) fun v5 =>
 bnd (Qb .eql 46 v4 v5) fun v6 =>
 cnd v6
 (bnd (Zj [(.int .i64 0),(.int .u64 0),(.int .u64 0),(.int .u64 0),(.int .u64 0),.nils] [(0,1),(1,4),(5,1)] [(0,(.int .i64 0))]) fun v7 =>
 beff (Qs O 6 h3 v2 v7) fun v8 h9 =>
 bnd (Qc true 6 h9 v2) fun v10 =>
 rt false O v10 h9)
 (bnd (Qc true 4 h3 v0) fun v11 =>
 bnd (Zj [(.int .i64 0),(.int .u64 0),(.int .u64 0),(.int .u64 0),(.int .u64 0),.nils] [(0,1),(1,4),(5,1)] [(0,(.int .i64 2)),(1,v11)]) fun v12 =>
 beff (Qs O 6 h3 v2 v12) fun v13 h14 =>
 bnd (Qc true 6 h14 v2) fun v15 =>
 rt false O v15 h14) := by kernel_rfl
theorem Qit (t0 : V) (H : Qa) : E AO [t0] H = QbT H.length t0 H := (QR Tryd.func60 (by kernel_rfl) (by kernel_rfl) (by kernel_rfl)).trans (by kernel_rfl)
def Qpg : Code := QO Tryd.f61
def QjM : Ks := []
def Qoe (O : Nat) : KC (Out × Qa) := QP Tryd.prog D false O 9 Tryd.f61.results.toList
def QhR (O : Nat) (c : Code) (k : KC (Out × Qa)) (t : Ts) (H : Qa) (d : Ds) : Option (Out × Qa) := xC Tryd.prog O true QjM E 9 c k t H d
def Qb0 (O : Nat) (t0 t1 : V) (H : Qa) : Option (Out × Qa) := QhR O Qpg (Qoe O) [(0,t0),(1,t1)] H []
theorem Xv (O : Nat) (t0 t1 : V) (H : Qa) : Qb0 O t0 t1 H =
 bnd (QM t0) fun v0 =>
 bcall (E Xw [t0,v0,t1] H) (fun v1 h2 =>
 rt false O (.tup []) h2)
 (fun v1 h2 => pn false O v1 h2) := by kernel_rfl
theorem Qg4 (t0 t1 : V) (H : Qa) : E PP [t0,t1] H = Qb0 H.length t0 t1 H := (QR Tryd.func61 (by kernel_rfl) (by kernel_rfl) (by kernel_rfl)).trans (by kernel_rfl)
def Qng : Code := QO Tryd.f62
def Qn2 : Ks := []
def QnN (O : Nat) : KC (Out × Qa) := QP Tryd.prog D false O 10 Tryd.f62.results.toList
def Qqb (O : Nat) (c : Code) (k : KC (Out × Qa)) (t : Ts) (H : Qa) (d : Ds) : Option (Out × Qa) := xC Tryd.prog O false Qn2 E 10 c k t H d
def TN (O : Nat) (t0 t1 : V) (H : Qa) : Option (Out × Qa) := Qqb O Qng (QnN O) [(0,t0),(1,t1)] H []
theorem QpW (O : Nat) (t0 t1 : V) (H : Qa) : TN O t0 t1 H =
 beff (QD H t0) fun v0 h1 =>
 beff (QD h1 t1) fun v2 h3 =>
 bnd (Qc true 6 h3 v0) fun v4 =>
 bcall (E Quc [v4] h3) (fun v5 h6 =>
 bnd (bnd (Qc true 6 h6 v2) fun v7 => sch (sam (Qc true 6 h3 v2) v7) (
 some v7)) fun v7 =>
 bcall (E Quc [v7] h6) (fun v8 h9 =>
 bcall (E QeL [v5,v8] h9) (fun v10 h11 =>
 rt false O v10 h11)
 (fun v10 h11 => pn false O v10 h11))
 (fun v8 h9 => pn false O v8 h9))
 (fun v5 h6 => sch (tlb (Qc true 6 h3 v2) fun v12 => true) (pn false O v5 h6)) := by kernel_rfl
theorem Qk4 (t0 t1 : V) (H : Qa) : E Uw [t0,t1] H = TN H.length t0 t1 H := (QR Tryd.func62 (by kernel_rfl) (by kernel_rfl) (by kernel_rfl)).trans (by kernel_rfl)
end
end Go.Proofs.YtdnmpaielmfiiaaDoor
end
