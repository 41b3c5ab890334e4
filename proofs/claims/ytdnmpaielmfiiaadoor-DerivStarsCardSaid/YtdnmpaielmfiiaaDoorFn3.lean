/- Fn3: a part of the proof that each law of this seat answers true at every input. No condition. -/
import Derived.Test.YtdnmpaielmfiiaaDoorHint
import Derived.KernelRfl
set_option linter.unusedVariables false
set_option linter.unusedSimpArgs false
set_option maxRecDepth 20000
section
namespace Go.Proofs.YtdnmpaielmfiiaaDoor
open Go Go.Ev
noncomputable section
def Qp : Code := QO Tryd.f56
def QT : Ks := [(10,[3,4,5]),(14,[3,4,5]),(11,[3,4,5]),(18,[1,3,6]),(23,[1,3,7]),(27,[1,3,7]),(24,[1,3,7])]
def QS (O : Nat) : KC (Out × Qa) := QP Tryd.prog D false O 100 Tryd.f56.results.toList
def QV (O : Nat) (c : Code) (k : KC (Out × Qa)) (t : Ts) (H : Qa) (d : Ds) : Option (Out × Qa) := xC Tryd.prog O false QT E 100 c k t H d
def Pw (O : Nat) (t3 t4 t5 : V) (H : Qa) : Option (Out × Qa) :=
Qt (fun t H d again => QV O (cAt [1,1,0,1,0,1,1,1,1,1,0,1,0,1,0,0] Qp) (Ql QT (cAt [1,1,0,1,0,1,1,1,1,1,0,1,0,1,0,0] Qp) again ((Qe 1 ((Qg (fun _ t => QV O (cAt [1,1,0,1,0,1,1,1,1,1,0,1,1] Qp) ((Qe 0 ((Qg (fun _ t => QV O (cAt [1,1,1] Qp) (QS O) (Qf QT (cAt [1,1,1] Qp) t)) (QS O))))) (Qf QT (cAt [1,1,0,1,0,1,1,1,1,1,0,1,1] Qp) t)) ((Qe 0 ((Qg (fun _ t => QV O (cAt [1,1,1] Qp) (QS O) (Qf QT (cAt [1,1,1] Qp) t)) (QS O)))))))))) t H d) [(3,t3),(4,t4),(5,t5)] H []
def Tl (O : Nat) (t3 t4 t5 : V) (H : Qa) : Option (Out × Qa) :=
QV O (cAt [1,1,0,1,0,1,1,1,1,1,0,1,0,1,0,0,1,1] Qp) ((Ql QT (cAt [1,1,0,1,0,1,1,1,1,1,0,1,0,1,0,0] Qp) (Qt (fun t H d again => QV O (cAt [1,1,0,1,0,1,1,1,1,1,0,1,0,1,0,0] Qp) (Ql QT (cAt [1,1,0,1,0,1,1,1,1,1,0,1,0,1,0,0] Qp) again ((Qe 1 ((Qg (fun _ t => QV O (cAt [1,1,0,1,0,1,1,1,1,1,0,1,1] Qp) ((Qe 0 ((Qg (fun _ t => QV O (cAt [1,1,1] Qp) (QS O) (Qf QT (cAt [1,1,1] Qp) t)) (QS O))))) (Qf QT (cAt [1,1,0,1,0,1,1,1,1,1,0,1,1] Qp) t)) ((Qe 0 ((Qg (fun _ t => QV O (cAt [1,1,1] Qp) (QS O) (Qf QT (cAt [1,1,1] Qp) t)) (QS O)))))))))) t H d)) ((Qe 1 ((Qg (fun _ t => QV O (cAt [1,1,0,1,0,1,1,1,1,1,0,1,1] Qp) ((Qe 0 ((Qg (fun _ t => QV O (cAt [1,1,1] Qp) (QS O) (Qf QT (cAt [1,1,1] Qp) t)) (QS O))))) (Qf QT (cAt [1,1,0,1,0,1,1,1,1,1,0,1,1] Qp) t)) ((Qe 0 ((Qg (fun _ t => QV O (cAt [1,1,1] Qp) (QS O) (Qf QT (cAt [1,1,1] Qp) t)) (QS O))))))))))) [(3,t3),(4,t4),(5,t5)] H []
theorem QnV (O : Nat) (t3 t4 t5 : V) (H : Qa) : Tl O t3 t4 t5 H =
 bnd (Qb .add 6 t5 (.int .i64 1)) fun v28 =>
 Pw O t3 t4 v28 H := by kernel_rfl
def Pd (O : Nat) (t3 t4 t5 : V) (H : Qa) : Option (Out × Qa) :=
QV O (cAt [1,1,0,1,0,1,1,1,1,1,0,1,0,1,0,0,1,0,0,1] Qp) ((Qe 2 ((Qg (fun _ t => QV O (cAt [1,1,0,1,0,1,1,1,1,1,0,1,0,1,0,0,1,1] Qp) ((Ql QT (cAt [1,1,0,1,0,1,1,1,1,1,0,1,0,1,0,0] Qp) (Qt (fun t H d again => QV O (cAt [1,1,0,1,0,1,1,1,1,1,0,1,0,1,0,0] Qp) (Ql QT (cAt [1,1,0,1,0,1,1,1,1,1,0,1,0,1,0,0] Qp) again ((Qe 1 ((Qg (fun _ t => QV O (cAt [1,1,0,1,0,1,1,1,1,1,0,1,1] Qp) ((Qe 0 ((Qg (fun _ t => QV O (cAt [1,1,1] Qp) (QS O) (Qf QT (cAt [1,1,1] Qp) t)) (QS O))))) (Qf QT (cAt [1,1,0,1,0,1,1,1,1,1,0,1,1] Qp) t)) ((Qe 0 ((Qg (fun _ t => QV O (cAt [1,1,1] Qp) (QS O) (Qf QT (cAt [1,1,1] Qp) t)) (QS O)))))))))) t H d)) ((Qe 1 ((Qg (fun _ t => QV O (cAt [1,1,0,1,0,1,1,1,1,1,0,1,1] Qp) ((Qe 0 ((Qg (fun _ t => QV O (cAt [1,1,1] Qp) (QS O) (Qf QT (cAt [1,1,1] Qp) t)) (QS O))))) (Qf QT (cAt [1,1,0,1,0,1,1,1,1,1,0,1,1] Qp) t)) ((Qe 0 ((Qg (fun _ t => QV O (cAt [1,1,1] Qp) (QS O) (Qf QT (cAt [1,1,1] Qp) t)) (QS O))))))))))) (Qf QT (cAt [1,1,0,1,0,1,1,1,1,1,0,1,0,1,0,0,1,1] Qp) t)) ((Ql QT (cAt [1,1,0,1,0,1,1,1,1,1,0,1,0,1,0,0] Qp) (Qt (fun t H d again => QV O (cAt [1,1,0,1,0,1,1,1,1,1,0,1,0,1,0,0] Qp) (Ql QT (cAt [1,1,0,1,0,1,1,1,1,1,0,1,0,1,0,0] Qp) again ((Qe 1 ((Qg (fun _ t => QV O (cAt [1,1,0,1,0,1,1,1,1,1,0,1,1] Qp) ((Qe 0 ((Qg (fun _ t => QV O (cAt [1,1,1] Qp) (QS O) (Qf QT (cAt [1,1,1] Qp) t)) (QS O))))) (Qf QT (cAt [1,1,0,1,0,1,1,1,1,1,0,1,1] Qp) t)) ((Qe 0 ((Qg (fun _ t => QV O (cAt [1,1,1] Qp) (QS O) (Qf QT (cAt [1,1,1] Qp) t)) (QS O)))))))))) t H d)) ((Qe 1 ((Qg (fun _ t => QV O (cAt [1,1,0,1,0,1,1,1,1,1,0,1,1] Qp) ((Qe 0 ((Qg (fun _ t => QV O (cAt [1,1,1] Qp) (QS O) (Qf QT (cAt [1,1,1] Qp) t)) (QS O))))) (Qf QT (cAt [1,1,0,1,0,1,1,1,1,1,0,1,1] Qp) t)) ((Qe 0 ((Qg (fun _ t => QV O (cAt [1,1,1] Qp) (QS O) (Qf QT (cAt [1,1,1] Qp) t)) (QS O))))))))))))))) [(3,t3),(4,t4),(5,t5)] H []
theorem QlL (O : Nat) (t3 t4 t5 : V) (H : Qa) : Pd O t3 t4 t5 H =
 bnd (Qx 2 t4 t5) fun v15 =>
 bnd (Qq v15 0) fun v16 =>
 bnd (Qc false 1 H v16) fun v17 =>
 bcall (E BF [v17] H) (fun v18 h19 =>
 bnd (Qb .add 6 t3 v18) fun v20 =>
 bnd (Qb .add 6 v20 (.str [45])) fun v21 =>
 bnd (Qx 2 t4 t5) fun v22 =>
 bnd (Qq v22 1) fun v23 =>
 bnd (bnd (Qc false 1 h19 v23) fun v24 => sch (sam (Qc false 1 H v23) v24) (
 some v24)) fun v24 =>
 bcall (E BF [v24] h19) (fun v25 h26 =>
 bnd (Qb .add 6 v21 v25) fun v27 =>
 Tl O v27 t4 t5 h26)
 (fun v25 h26 => pn false O v25 h26))
 (fun v18 h19 => sch (tlb (QL t4) fun v29 => tlb (QL t5) fun v30 => tlb (Qx 2 v29 v30) fun v31 => tlb (Qq v31 1) fun v32 => tlb (Qc false 1 H v32) fun v33 => true) (pn false O v18 h19)) := by kernel_rfl
theorem Qmc (O : Nat) (t3 t4 t5 : V) (H : Qa) : Pw O t3 t4 t5 H =
 bnd (QM t4) fun v11 =>
 bnd (Qb .lss 6 t5 v11) fun v12 =>
 cnd v12
 (bnd (Qb .gtr 6 t5 (.int .i64 0)) fun v13 =>
 cnd v13
 (bnd (Qb .add 6 t3 (.str [44])) fun v14 =>
 Pd O v14 t4 t5 H)
 (Pd O t3 t4 t5 H))
 (bnd (Qb .add 6 (.str [91]) t3) fun v34 =>
 bnd (Qb .add 6 v34 (.str [93])) fun v35 =>
 rt false O v35 H) := (Za (cAt [1,1,0,1,0,1,1,1,1,1,0,1,0,1,0,0] Qp) ((Qe 1 ((Qg (fun _ t => QV O (cAt [1,1,0,1,0,1,1,1,1,1,0,1,1] Qp) ((Qe 0 ((Qg (fun _ t => QV O (cAt [1,1,1] Qp) (QS O) (Qf QT (cAt [1,1,1] Qp) t)) (QS O))))) (Qf QT (cAt [1,1,0,1,0,1,1,1,1,1,0,1,1] Qp) t)) ((Qe 0 ((Qg (fun _ t => QV O (cAt [1,1,1] Qp) (QS O) (Qf QT (cAt [1,1,1] Qp) t)) (QS O))))))))) _ H []).trans (by kernel_rfl)
def L9 (O : Nat) (t1 t3 t6 : V) (H : Qa) : Option (Out × Qa) :=
Qt (fun t H d again => QV O (cAt [1,1,0,1,0,1,1,1,1,1,1,1,0,0,1,0,0] Qp) (Ql QT (cAt [1,1,0,1,0,1,1,1,1,1,1,1,0,0,1,0,0] Qp) again ((Qe 3 ((Qg (fun _ t => QV O (cAt [1,1,0,1,0,1,1,1,1,1,1,1,0,1] Qp) ((Qe 0 ((Qg (fun _ t => QV O (cAt [1,1,1] Qp) (QS O) (Qf QT (cAt [1,1,1] Qp) t)) (QS O))))) (Qf QT (cAt [1,1,0,1,0,1,1,1,1,1,1,1,0,1] Qp) t)) ((Qe 0 ((Qg (fun _ t => QV O (cAt [1,1,1] Qp) (QS O) (Qf QT (cAt [1,1,1] Qp) t)) (QS O)))))))))) t H d) [(1,t1),(3,t3),(6,t6)] H []
theorem QnS (O : Nat) (t1 t3 t6 : V) (H : Qa) : L9 O t1 t3 t6 H =
 bnd (Qq t1 5) fun v37 =>
 bnd (Qc false 1 H v37) fun v38 =>
 bnd (QM v38) fun v39 =>
 bnd (Qb .lss 6 t6 v39) fun v40 =>
 cnd v40
 (bnd (Qq t1 5) fun v41 =>
 bnd (Qc false 1 H v41) fun v42 =>
 bnd (Qx 6 v42 t6) fun v43 =>
 bnd (Qc true 6 H v43) fun v44 =>
 bcall (E K1 [v44] H) (fun v45 h46 =>
 bnd (Qb .add 6 t3 v45) fun v47 =>
 bnd (Qb .add 6 t6 (.int .i64 1)) fun v48 =>
 L9 O t1 v47 v48 h46)
 (fun v45 h46 => pn false O v45 h46))
 (bnd (Qb .add 6 t3 (.str [42])) fun v49 =>
 rt false O v49 H) := (Za (cAt [1,1,0,1,0,1,1,1,1,1,1,1,0,0,1,0,0] Qp) ((Qe 3 ((Qg (fun _ t => QV O (cAt [1,1,0,1,0,1,1,1,1,1,1,1,0,1] Qp) ((Qe 0 ((Qg (fun _ t => QV O (cAt [1,1,1] Qp) (QS O) (Qf QT (cAt [1,1,1] Qp) t)) (QS O))))) (Qf QT (cAt [1,1,0,1,0,1,1,1,1,1,1,1,0,1] Qp) t)) ((Qe 0 ((Qg (fun _ t => QV O (cAt [1,1,1] Qp) (QS O) (Qf QT (cAt [1,1,1] Qp) t)) (QS O))))))))) _ H []).trans (by kernel_rfl)
def LG (O : Nat) (t1 t3 t7 : V) (H : Qa) : Option (Out × Qa) :=
Qt (fun t H d again => QV O (cAt [1,1,1,0,1,0,0] Qp) (Ql QT (cAt [1,1,1,0,1,0,0] Qp) again ((Qe 5 ((Qg (fun _ t => QV O (cAt [1,1,1,1] Qp) (QS O) (Qf QT (cAt [1,1,1,1] Qp) t)) (QS O)))))) t H d) [(1,t1),(3,t3),(7,t7)] H []
def QgY (O : Nat) (t1 t3 t7 : V) (H : Qa) : Option (Out × Qa) :=
QV O (cAt [1,1,1,0,1,0,0,1,1] Qp) ((Ql QT (cAt [1,1,1,0,1,0,0] Qp) (Qt (fun t H d again => QV O (cAt [1,1,1,0,1,0,0] Qp) (Ql QT (cAt [1,1,1,0,1,0,0] Qp) again ((Qe 5 ((Qg (fun _ t => QV O (cAt [1,1,1,1] Qp) (QS O) (Qf QT (cAt [1,1,1,1] Qp) t)) (QS O)))))) t H d)) ((Qe 5 ((Qg (fun _ t => QV O (cAt [1,1,1,1] Qp) (QS O) (Qf QT (cAt [1,1,1,1] Qp) t)) (QS O))))))) [(1,t1),(3,t3),(7,t7)] H []
theorem QoJ (O : Nat) (t1 t3 t7 : V) (H : Qa) : QgY O t1 t3 t7 H =
 bnd (Qb .add 6 t7 (.int .i64 1)) fun v67 =>
 LG O t1 t3 v67 H := by kernel_rfl
def PV (O : Nat) (t1 t3 t7 : V) (H : Qa) : Option (Out × Qa) :=
QV O (cAt [1,1,1,0,1,0,0,1,0,0,1] Qp) ((Qe 6 ((Qg (fun _ t => QV O (cAt [1,1,1,0,1,0,0,1,1] Qp) ((Ql QT (cAt [1,1,1,0,1,0,0] Qp) (Qt (fun t H d again => QV O (cAt [1,1,1,0,1,0,0] Qp) (Ql QT (cAt [1,1,1,0,1,0,0] Qp) again ((Qe 5 ((Qg (fun _ t => QV O (cAt [1,1,1,1] Qp) (QS O) (Qf QT (cAt [1,1,1,1] Qp) t)) (QS O)))))) t H d)) ((Qe 5 ((Qg (fun _ t => QV O (cAt [1,1,1,1] Qp) (QS O) (Qf QT (cAt [1,1,1,1] Qp) t)) (QS O))))))) (Qf QT (cAt [1,1,1,0,1,0,0,1,1] Qp) t)) ((Ql QT (cAt [1,1,1,0,1,0,0] Qp) (Qt (fun t H d again => QV O (cAt [1,1,1,0,1,0,0] Qp) (Ql QT (cAt [1,1,1,0,1,0,0] Qp) again ((Qe 5 ((Qg (fun _ t => QV O (cAt [1,1,1,1] Qp) (QS O) (Qf QT (cAt [1,1,1,1] Qp) t)) (QS O)))))) t H d)) ((Qe 5 ((Qg (fun _ t => QV O (cAt [1,1,1,1] Qp) (QS O) (Qf QT (cAt [1,1,1,1] Qp) t)) (QS O))))))))))) [(1,t1),(3,t3),(7,t7)] H []
theorem Qmd (O : Nat) (t1 t3 t7 : V) (H : Qa) : PV O t1 t3 t7 H =
 bnd (Qq t1 5) fun v60 =>
 bnd (Qc false 1 H v60) fun v61 =>
 bnd (Qx 6 v61 t7) fun v62 =>
 bnd (Qc true 6 H v62) fun v63 =>
 bcall (E K1 [v63] H) (fun v64 h65 =>
 bnd (Qb .add 6 t3 v64) fun v66 =>
 QgY O t1 v66 t7 h65)
 (fun v64 h65 => pn false O v64 h65) := by kernel_rfl
theorem QmY (O : Nat) (t1 t3 t7 : V) (H : Qa) : LG O t1 t3 t7 H =
 bnd (Qq t1 5) fun v50 =>
 bnd (Qc false 1 H v50) fun v51 =>
 bnd (QM v51) fun v52 =>
 bnd (Qb .lss 6 t7 v52) fun v53 =>
 cnd v53
 (bnd (Qb .gtr 6 t7 (.int .i64 0)) fun v54 =>
 bnd (gua v54 true (Qq t1 0) (some (.tup []))) fun v55 =>
 bnd (gua v54 true (Qc false 1 H v55) (some (.tup []))) fun v56 =>
 bnd (gua v54 true (Qb .neq 6 v56 (.int .i64 3)) (some (.tup []))) fun v57 =>
 bnd (QY v54 v57 (.bool false)) fun v58 =>
 cnd v58
 (bnd (Qb .add 6 t3 (.str [124])) fun v59 =>
 PV O t1 v59 t7 H)
 (PV O t1 t3 t7 H))
 (bnd (Qq t1 0) fun v68 =>
 bnd (Qc false 1 H v68) fun v69 =>
 bnd (Qb .eql 6 v69 (.int .i64 3)) fun v70 =>
 cnd v70
 (bnd (Qb .add 6 (.str [40]) t3) fun v71 =>
 bnd (Qb .add 6 v71 (.str [41])) fun v72 =>
 rt false O v72 H)
 (bnd (Qb .add 6 (.str [123]) t3) fun v73 =>
 bnd (Qb .add 6 v73 (.str [125])) fun v74 =>
 rt false O v74 H)) := (Za (cAt [1,1,1,0,1,0,0] Qp) ((Qe 5 ((Qg (fun _ t => QV O (cAt [1,1,1,1] Qp) (QS O) (Qf QT (cAt [1,1,1,1] Qp) t)) (QS O))))) _ H []).trans (by kernel_rfl)
def QdR (O : Nat) (t0 : V) (H : Qa) : Option (Out × Qa) := QV O Qp (QS O) [(0,t0)] H []
theorem QnG (O : Nat) (t0 : V) (H : Qa) : QdR O t0 H =
 beff (QD H t0) fun v0 h1 =>
 bnd (Qq v0 0) fun v2 =>
 bnd (Qc false 1 h1 v2) fun v3 =>
 bnd (Qb .eql 6 v3 (.int .i64 0)) fun v4 =>
 cnd v4
 (rt false O (.str [48]) h1)
 (bnd (Qb .eql 6 v3 (.int .i64 1)) fun v5 =>
 cnd v5
 (rt false O (.str [49]) h1)
 (bnd (Qb .eql 6 v3 (.int .i64 2)) fun v6 =>
 cnd v6
 (bnd (Qq v0 1) fun v7 =>
 bnd (Qc true 4 h1 v7) fun v8 =>
 bcall (E DO [v8] h1) (fun v9 h10 =>
 Pw O (.str []) v9 (.int .i64 0) h10)
 (fun v9 h10 => pn false O v9 h10))
 (bnd (Qb .eql 6 v3 (.int .i64 5)) fun v36 =>
 cnd v36
 (L9 O v0 (.str []) (.int .i64 0) h1)
 (LG O v0 (.str []) (.int .i64 0) h1)))) := by kernel_rfl
theorem QkR (t0 : V) (H : Qa) : E K1 [t0] H = QdR H.length t0 H := (QR Tryd.func56 (by kernel_rfl) (by kernel_rfl) (by kernel_rfl)).trans (by kernel_rfl)
def WM : Code := QO Tryd.f59
def Fo : Ks := [(2,[2,4,7,8])]
def NG (O : Nat) : KC (Out × Qa) := QP Tryd.prog D false O 20 Tryd.f59.results.toList
def LV (O : Nat) (c : Code) (k : KC (Out × Qa)) (t : Ts) (H : Qa) (d : Ds) : Option (Out × Qa) := xC Tryd.prog O false Fo E 20 c k t H d
def AH (O : Nat) (t2 t4 t7 t8 : V) (H : Qa) : Option (Out × Qa) :=
Qt (fun t H d again => LV O (cAt [1,0,1,0,0] WM) (Ql Fo (cAt [1,0,1,0,0] WM) again ((Qe 0 ((Qg (fun _ t => LV O (cAt [1,1] WM) (NG O) (Qf Fo (cAt [1,1] WM) t)) (NG O)))))) t H d) [(2,t2),(4,t4),(7,t7),(8,t8)] H []
theorem MH (O : Nat) (t2 t4 t7 t8 : V) (H : Qa) : AH O t2 t4 t7 t8 H =
 bnd (Qb .lss 6 t8 (.int .i64 4)) fun v7 =>
 cnd v7
 (bnd (Ee 4 false 1 t7 t8) fun v8 =>
 bnd (Wl 4 1 t2 t8) fun v9 =>
 bnd (Qc false 1 H v9) fun v10 =>
 bnd (Qb .or 6 v10 v8) fun v11 =>
 bnd (Wl 4 1 t2 t8) fun v12 =>
 beff (Qs O 1 H v12 v11) fun v13 h14 =>
 bnd (Qb .add 6 t8 (.int .i64 1)) fun v15 =>
 AH O t2 t4 t7 v15 h14)
 (bnd (Qc true 4 H t2) fun v16 =>
 beff (Qs O 4 H t4 v16) fun v17 h18 =>
 bnd (Qc true 4 h18 t4) fun v19 =>
 rt false O v19 h18) := (Za (cAt [1,0,1,0,0] WM) ((Qe 0 ((Qg (fun _ t => LV O (cAt [1,1] WM) (NG O) (Qf Fo (cAt [1,1] WM) t)) (NG O))))) _ H []).trans (by kernel_rfl)
def XY (O : Nat) (t0 t1 : V) (H : Qa) : Option (Out × Qa) := LV O WM (NG O) [(0,t0),(1,t1)] H []
theorem Qm2 (O : Nat) (t0 t1 : V) (H : Qa) : XY O t0 t1 H =
 beff (QD H t0) fun v0 h1 =>
 beff (QD h1 t1) fun v2 h3 =>
 beff (QD h3 (.agg [(.int .u64 0),(.int .u64 0),(.int .u64 0),(.int .u64 0)])) fun v4 h5 =>
 bnd (Qc true 4 h5 v2) fun v6 =>
 AH O v0 v4 v6 (.int .i64 0) h5 := by kernel_rfl
theorem Qmj (t0 t1 : V) (H : Qa) : E D5 [t0,t1] H = XY H.length t0 t1 H := (QR Tryd.func59 (by kernel_rfl) (by kernel_rfl) (by kernel_rfl)).trans (by kernel_rfl)
def QqK : Code := QO Tryd.f60
def Qi6 : Ks := []
def Qom (O : Nat) : KC (Out × Qa) := QP Tryd.prog D false O 9 Tryd.f60.results.toList
def QnT (O : Nat) (c : Code) (k : KC (Out × Qa)) (t : Ts) (H : Qa) (d : Ds) : Option (Out × Qa) := xC Tryd.prog O false Qi6 E 9 c k t H d
def QbT (O : Nat) (t0 : V) (H : Qa) : Option (Out × Qa) := QnT O QqK (Qom O) [(0,t0)] H []
theorem Qpy (O : Nat) (t0 : V) (H : Qa) : QbT O t0 H =
 beff (QD H t0) fun v0 h1 =>
 beff (QD h1 (.agg [(.int .i64 0),(.int .u64 0),(.int .u64 0),(.int .u64 0),(.int .u64 0),.nils])) fun v2 h3 =>
 bnd (Qc true 4 h3 v0) fun v4 =>
 bnd (NT [(.int .u64 0),(.int .u64 0),(.int .u64 0),(.int .u64 0)] 1 []) fun v5 =>
 bnd (Qb .eql 46 v4 v5) fun v6 =>
 cnd v6
 (bnd (Zj [(.int .i64 0),(.int .u64 0),(.int .u64 0),(.int .u64 0),(.int .u64 0),.nils] [(0,1),(1,4),(5,1)] [(0,(.int .i64 0))]) fun v7 =>
 beff (Qs O 6 h3 v2 v7) fun v8 h9 =>
 bnd (Qc true 6 h9 v2) fun v10 =>
 rt false O v10 h9)
 (bnd (Qc true 4 h3 v0) fun v11 =>
 bnd (Zj [(.int .i64 0),(.int .u64 0),(.int .u64 0),(.int .u64 0),(.int .u64 0),.nils] [(0,1),(1,4),(5,1)] [(0,(.int .i64 2)),(1,v11)]) fun v12 =>
 beff (Qs O 6 h3 v2 v12) fun v13 h14 =>
 bnd (Qc true 6 h14 v2) fun v15 =>
 rt false O v15 h14) := by kernel_rfl
theorem Qit (t0 : V) (H : Qa) : E AO [t0] H = QbT H.length t0 H := (QR Tryd.func60 (by kernel_rfl) (by kernel_rfl) (by kernel_rfl)).trans (by kernel_rfl)
def Qpg : Code := QO Tryd.f61
def QjM : Ks := []
def Qoe (O : Nat) : KC (Out × Qa) := QP Tryd.prog D false O 9 Tryd.f61.results.toList
def QhR (O : Nat) (c : Code) (k : KC (Out × Qa)) (t : Ts) (H : Qa) (d : Ds) : Option (Out × Qa) := xC Tryd.prog O true QjM E 9 c k t H d
def Qb0 (O : Nat) (t0 t1 : V) (H : Qa) : Option (Out × Qa) := QhR O Qpg (Qoe O) [(0,t0),(1,t1)] H []
theorem Xv (O : Nat) (t0 t1 : V) (H : Qa) : Qb0 O t0 t1 H =
 bnd (QM t0) fun v0 =>
 bcall (E Xw [t0,v0,t1] H) (fun v1 h2 =>
 rt false O (.tup []) h2)
 (fun v1 h2 => pn false O v1 h2) := by kernel_rfl
theorem Qg4 (t0 t1 : V) (H : Qa) : E PP [t0,t1] H = Qb0 H.length t0 t1 H := (QR Tryd.func61 (by kernel_rfl) (by kernel_rfl) (by kernel_rfl)).trans (by kernel_rfl)
def Qng : Code := QO Tryd.f62
def Qn2 : Ks := []
def QnN (O : Nat) : KC (Out × Qa) := QP Tryd.prog D false O 10 Tryd.f62.results.toList
def Qqb (O : Nat) (c : Code) (k : KC (Out × Qa)) (t : Ts) (H : Qa) (d : Ds) : Option (Out × Qa) := xC Tryd.prog O false Qn2 E 10 c k t H d
def TN (O : Nat) (t0 t1 : V) (H : Qa) : Option (Out × Qa) := Qqb O Qng (QnN O) [(0,t0),(1,t1)] H []
theorem QpW (O : Nat) (t0 t1 : V) (H : Qa) : TN O t0 t1 H =
 beff (QD H t0) fun v0 h1 =>
 beff (QD h1 t1) fun v2 h3 =>
 bnd (Qc true 6 h3 v0) fun v4 =>
 bcall (E Quc [v4] h3) (fun v5 h6 =>
 bnd (bnd (Qc true 6 h6 v2) fun v7 => sch (sam (Qc true 6 h3 v2) v7) (
 some v7)) fun v7 =>
 bcall (E Quc [v7] h6) (fun v8 h9 =>
 bcall (E QeL [v5,v8] h9) (fun v10 h11 =>
 rt false O v10 h11)
 (fun v10 h11 => pn false O v10 h11))
 (fun v8 h9 => pn false O v8 h9))
 (fun v5 h6 => sch (tlb (Qc true 6 h3 v2) fun v12 => true) (pn false O v5 h6)) := by kernel_rfl
theorem Qk4 (t0 t1 : V) (H : Qa) : E Uw [t0,t1] H = TN H.length t0 t1 H := (QR Tryd.func62 (by kernel_rfl) (by kernel_rfl) (by kernel_rfl)).trans (by kernel_rfl)
def Qm : Code := QO Tryd.f65
def QC : Ks := [(4,[0,1,5]),(9,[0,1,5,6,7]),(10,[0,1,5,6,7])]
def QH (O : Nat) : KC (Out × Qa) := QP Tryd.prog D false O 66 Tryd.f65.results.toList
def QJ (O : Nat) (c : Code) (k : KC (Out × Qa)) (t : Ts) (H : Qa) (d : Ds) : Option (Out × Qa) := xC Tryd.prog O true QC E 66 c k t H d
def Ej (O : Nat) (t0 t1 t5 : V) (H : Qa) : Option (Out × Qa) :=
Qt (fun t H d again => QJ O (cAt [1,1,0,1,0,0] Qm) (Ql QC (cAt [1,1,0,1,0,0] Qm) again ((Qe 0 ((Qg (fun _ t => QJ O (cAt [1,1,1] Qm) (QH O) (Qf QC (cAt [1,1,1] Qm) t)) (QH O)))))) t H d) [(0,t0),(1,t1),(5,t5)] H []
def RO (O : Nat) (t0 t1 t5 t6 t7 : V) (H : Qa) : Option (Out × Qa) :=
Qt (fun t H d again => QJ O (cAt [1,1,0,1,0,0,1,0,0,1,0,1,0,1,0,0] Qm) (Ql QC (cAt [1,1,0,1,0,0,1,0,0,1,0,1,0,1,0,0] Qm) again ((Qe 2 ((Qg (fun _ t => QJ O (cAt [1,1,0,1,0,0,1,0,0,1,0,1,1] Qm) ((Qe 1 ((Qg (fun _ t => QJ O (cAt [1,1,0,1,0,0,1,1] Qm) ((Ql QC (cAt [1,1,0,1,0,0] Qm) (Qt (fun t H d again => QJ O (cAt [1,1,0,1,0,0] Qm) (Ql QC (cAt [1,1,0,1,0,0] Qm) again ((Qe 0 ((Qg (fun _ t => QJ O (cAt [1,1,1] Qm) (QH O) (Qf QC (cAt [1,1,1] Qm) t)) (QH O)))))) t H d)) ((Qe 0 ((Qg (fun _ t => QJ O (cAt [1,1,1] Qm) (QH O) (Qf QC (cAt [1,1,1] Qm) t)) (QH O))))))) (Qf QC (cAt [1,1,0,1,0,0,1,1] Qm) t)) ((Ql QC (cAt [1,1,0,1,0,0] Qm) (Qt (fun t H d again => QJ O (cAt [1,1,0,1,0,0] Qm) (Ql QC (cAt [1,1,0,1,0,0] Qm) again ((Qe 0 ((Qg (fun _ t => QJ O (cAt [1,1,1] Qm) (QH O) (Qf QC (cAt [1,1,1] Qm) t)) (QH O)))))) t H d)) ((Qe 0 ((Qg (fun _ t => QJ O (cAt [1,1,1] Qm) (QH O) (Qf QC (cAt [1,1,1] Qm) t)) (QH O))))))))))) (Qf QC (cAt [1,1,0,1,0,0,1,0,0,1,0,1,1] Qm) t)) ((Qe 1 ((Qg (fun _ t => QJ O (cAt [1,1,0,1,0,0,1,1] Qm) ((Ql QC (cAt [1,1,0,1,0,0] Qm) (Qt (fun t H d again => QJ O (cAt [1,1,0,1,0,0] Qm) (Ql QC (cAt [1,1,0,1,0,0] Qm) again ((Qe 0 ((Qg (fun _ t => QJ O (cAt [1,1,1] Qm) (QH O) (Qf QC (cAt [1,1,1] Qm) t)) (QH O)))))) t H d)) ((Qe 0 ((Qg (fun _ t => QJ O (cAt [1,1,1] Qm) (QH O) (Qf QC (cAt [1,1,1] Qm) t)) (QH O))))))) (Qf QC (cAt [1,1,0,1,0,0,1,1] Qm) t)) ((Ql QC (cAt [1,1,0,1,0,0] Qm) (Qt (fun t H d again => QJ O (cAt [1,1,0,1,0,0] Qm) (Ql QC (cAt [1,1,0,1,0,0] Qm) again ((Qe 0 ((Qg (fun _ t => QJ O (cAt [1,1,1] Qm) (QH O) (Qf QC (cAt [1,1,1] Qm) t)) (QH O)))))) t H d)) ((Qe 0 ((Qg (fun _ t => QJ O (cAt [1,1,1] Qm) (QH O) (Qf QC (cAt [1,1,1] Qm) t)) (QH O)))))))))))))))) t H d) [(0,t0),(1,t1),(5,t5),(6,t6),(7,t7)] H []
def Pi (O : Nat) (t0 t1 t5 t6 t7 : V) (H : Qa) : Option (Out × Qa) :=
QJ O (cAt [1,1,0,1,0,0,1,0,0,1,0,1,0,1,0,0,1,1] Qm) ((Ql QC (cAt [1,1,0,1,0,0,1,0,0,1,0,1,0,1,0,0] Qm) (Qt (fun t H d again => QJ O (cAt [1,1,0,1,0,0,1,0,0,1,0,1,0,1,0,0] Qm) (Ql QC (cAt [1,1,0,1,0,0,1,0,0,1,0,1,0,1,0,0] Qm) again ((Qe 2 ((Qg (fun _ t => QJ O (cAt [1,1,0,1,0,0,1,0,0,1,0,1,1] Qm) ((Qe 1 ((Qg (fun _ t => QJ O (cAt [1,1,0,1,0,0,1,1] Qm) ((Ql QC (cAt [1,1,0,1,0,0] Qm) (Qt (fun t H d again => QJ O (cAt [1,1,0,1,0,0] Qm) (Ql QC (cAt [1,1,0,1,0,0] Qm) again ((Qe 0 ((Qg (fun _ t => QJ O (cAt [1,1,1] Qm) (QH O) (Qf QC (cAt [1,1,1] Qm) t)) (QH O)))))) t H d)) ((Qe 0 ((Qg (fun _ t => QJ O (cAt [1,1,1] Qm) (QH O) (Qf QC (cAt [1,1,1] Qm) t)) (QH O))))))) (Qf QC (cAt [1,1,0,1,0,0,1,1] Qm) t)) ((Ql QC (cAt [1,1,0,1,0,0] Qm) (Qt (fun t H d again => QJ O (cAt [1,1,0,1,0,0] Qm) (Ql QC (cAt [1,1,0,1,0,0] Qm) again ((Qe 0 ((Qg (fun _ t => QJ O (cAt [1,1,1] Qm) (QH O) (Qf QC (cAt [1,1,1] Qm) t)) (QH O)))))) t H d)) ((Qe 0 ((Qg (fun _ t => QJ O (cAt [1,1,1] Qm) (QH O) (Qf QC (cAt [1,1,1] Qm) t)) (QH O))))))))))) (Qf QC (cAt [1,1,0,1,0,0,1,0,0,1,0,1,1] Qm) t)) ((Qe 1 ((Qg (fun _ t => QJ O (cAt [1,1,0,1,0,0,1,1] Qm) ((Ql QC (cAt [1,1,0,1,0,0] Qm) (Qt (fun t H d again => QJ O (cAt [1,1,0,1,0,0] Qm) (Ql QC (cAt [1,1,0,1,0,0] Qm) again ((Qe 0 ((Qg (fun _ t => QJ O (cAt [1,1,1] Qm) (QH O) (Qf QC (cAt [1,1,1] Qm) t)) (QH O)))))) t H d)) ((Qe 0 ((Qg (fun _ t => QJ O (cAt [1,1,1] Qm) (QH O) (Qf QC (cAt [1,1,1] Qm) t)) (QH O))))))) (Qf QC (cAt [1,1,0,1,0,0,1,1] Qm) t)) ((Ql QC (cAt [1,1,0,1,0,0] Qm) (Qt (fun t H d again => QJ O (cAt [1,1,0,1,0,0] Qm) (Ql QC (cAt [1,1,0,1,0,0] Qm) again ((Qe 0 ((Qg (fun _ t => QJ O (cAt [1,1,1] Qm) (QH O) (Qf QC (cAt [1,1,1] Qm) t)) (QH O)))))) t H d)) ((Qe 0 ((Qg (fun _ t => QJ O (cAt [1,1,1] Qm) (QH O) (Qf QC (cAt [1,1,1] Qm) t)) (QH O)))))))))))))))) t H d)) ((Qe 2 ((Qg (fun _ t => QJ O (cAt [1,1,0,1,0,0,1,0,0,1,0,1,1] Qm) ((Qe 1 ((Qg (fun _ t => QJ O (cAt [1,1,0,1,0,0,1,1] Qm) ((Ql QC (cAt [1,1,0,1,0,0] Qm) (Qt (fun t H d again => QJ O (cAt [1,1,0,1,0,0] Qm) (Ql QC (cAt [1,1,0,1,0,0] Qm) again ((Qe 0 ((Qg (fun _ t => QJ O (cAt [1,1,1] Qm) (QH O) (Qf QC (cAt [1,1,1] Qm) t)) (QH O)))))) t H d)) ((Qe 0 ((Qg (fun _ t => QJ O (cAt [1,1,1] Qm) (QH O) (Qf QC (cAt [1,1,1] Qm) t)) (QH O))))))) (Qf QC (cAt [1,1,0,1,0,0,1,1] Qm) t)) ((Ql QC (cAt [1,1,0,1,0,0] Qm) (Qt (fun t H d again => QJ O (cAt [1,1,0,1,0,0] Qm) (Ql QC (cAt [1,1,0,1,0,0] Qm) again ((Qe 0 ((Qg (fun _ t => QJ O (cAt [1,1,1] Qm) (QH O) (Qf QC (cAt [1,1,1] Qm) t)) (QH O)))))) t H d)) ((Qe 0 ((Qg (fun _ t => QJ O (cAt [1,1,1] Qm) (QH O) (Qf QC (cAt [1,1,1] Qm) t)) (QH O))))))))))) (Qf QC (cAt [1,1,0,1,0,0,1,0,0,1,0,1,1] Qm) t)) ((Qe 1 ((Qg (fun _ t => QJ O (cAt [1,1,0,1,0,0,1,1] Qm) ((Ql QC (cAt [1,1,0,1,0,0] Qm) (Qt (fun t H d again => QJ O (cAt [1,1,0,1,0,0] Qm) (Ql QC (cAt [1,1,0,1,0,0] Qm) again ((Qe 0 ((Qg (fun _ t => QJ O (cAt [1,1,1] Qm) (QH O) (Qf QC (cAt [1,1,1] Qm) t)) (QH O)))))) t H d)) ((Qe 0 ((Qg (fun _ t => QJ O (cAt [1,1,1] Qm) (QH O) (Qf QC (cAt [1,1,1] Qm) t)) (QH O))))))) (Qf QC (cAt [1,1,0,1,0,0,1,1] Qm) t)) ((Ql QC (cAt [1,1,0,1,0,0] Qm) (Qt (fun t H d again => QJ O (cAt [1,1,0,1,0,0] Qm) (Ql QC (cAt [1,1,0,1,0,0] Qm) again ((Qe 0 ((Qg (fun _ t => QJ O (cAt [1,1,1] Qm) (QH O) (Qf QC (cAt [1,1,1] Qm) t)) (QH O)))))) t H d)) ((Qe 0 ((Qg (fun _ t => QJ O (cAt [1,1,1] Qm) (QH O) (Qf QC (cAt [1,1,1] Qm) t)) (QH O))))))))))))))))) [(0,t0),(1,t1),(5,t5),(6,t6),(7,t7)] H []
theorem Qic (O : Nat) (t0 t1 t5 t6 t7 : V) (H : Qa) : Pi O t0 t1 t5 t6 t7 H =
 bnd (Qb .add 6 t7 (.int .i64 1)) fun v28 =>
 RO O t0 t1 t5 t6 v28 H := by kernel_rfl
theorem Am (O : Nat) (t0 t1 t5 t6 t7 : V) (H : Qa) : RO O t0 t1 t5 t6 t7 H =
 bnd (QM t6) fun v12 =>
 bnd (Qb .lss 6 t7 v12) fun v13 =>
 cnd v13
 (bnd (Qx 6 t6 t7) fun v14 =>
 bnd (Qc true 6 H v14) fun v15 =>
 bnd (Qb .sub 6 t7 (.int .i64 1)) fun v16 =>
 bnd (Qx 6 t6 v16) fun v17 =>
 bnd (Qc true 6 H v17) fun v18 =>
 bcall (J6 E t1 [v15,v18] H) (fun v19 h20 =>
 bnd (oUn .not v19) fun v21 =>
 cnd v21
 (bnd (Qx 6 t6 t7) fun v22 =>
 bnd (Qc true 6 h20 v22) fun v23 =>
 bnd (Qx 6 t0 t5) fun v24 =>
 beff (Qs O 6 h20 v24 v23) fun v25 h26 =>
 bnd (Qb .add 6 t5 (.int .i64 1)) fun v27 =>
 Pi O t0 t1 v27 t6 t7 h26)
 (Pi O t0 t1 t5 t6 t7 h20))
 (fun v19 h20 => pn false O v19 h20))
 (bnd (JO 6 t0 (some t5) none none) fun v29 =>
 beff (N7 O 6 [(.int .i64 0),(.int .u64 0),(.int .u64 0),(.int .u64 0),(.int .u64 0),.nils] v29 H) fun v30 h31 =>
 bnd (JO 6 t0 none (some t5) none) fun v32 =>
 rt false O v32 h31) := (Za (cAt [1,1,0,1,0,0,1,0,0,1,0,1,0,1,0,0] Qm) ((Qe 2 ((Qg (fun _ t => QJ O (cAt [1,1,0,1,0,0,1,0,0,1,0,1,1] Qm) ((Qe 1 ((Qg (fun _ t => QJ O (cAt [1,1,0,1,0,0,1,1] Qm) ((Ql QC (cAt [1,1,0,1,0,0] Qm) (Qt (fun t H d again => QJ O (cAt [1,1,0,1,0,0] Qm) (Ql QC (cAt [1,1,0,1,0,0] Qm) again ((Qe 0 ((Qg (fun _ t => QJ O (cAt [1,1,1] Qm) (QH O) (Qf QC (cAt [1,1,1] Qm) t)) (QH O)))))) t H d)) ((Qe 0 ((Qg (fun _ t => QJ O (cAt [1,1,1] Qm) (QH O) (Qf QC (cAt [1,1,1] Qm) t)) (QH O))))))) (Qf QC (cAt [1,1,0,1,0,0,1,1] Qm) t)) ((Ql QC (cAt [1,1,0,1,0,0] Qm) (Qt (fun t H d again => QJ O (cAt [1,1,0,1,0,0] Qm) (Ql QC (cAt [1,1,0,1,0,0] Qm) again ((Qe 0 ((Qg (fun _ t => QJ O (cAt [1,1,1] Qm) (QH O) (Qf QC (cAt [1,1,1] Qm) t)) (QH O)))))) t H d)) ((Qe 0 ((Qg (fun _ t => QJ O (cAt [1,1,1] Qm) (QH O) (Qf QC (cAt [1,1,1] Qm) t)) (QH O))))))))))) (Qf QC (cAt [1,1,0,1,0,0,1,0,0,1,0,1,1] Qm) t)) ((Qe 1 ((Qg (fun _ t => QJ O (cAt [1,1,0,1,0,0,1,1] Qm) ((Ql QC (cAt [1,1,0,1,0,0] Qm) (Qt (fun t H d again => QJ O (cAt [1,1,0,1,0,0] Qm) (Ql QC (cAt [1,1,0,1,0,0] Qm) again ((Qe 0 ((Qg (fun _ t => QJ O (cAt [1,1,1] Qm) (QH O) (Qf QC (cAt [1,1,1] Qm) t)) (QH O)))))) t H d)) ((Qe 0 ((Qg (fun _ t => QJ O (cAt [1,1,1] Qm) (QH O) (Qf QC (cAt [1,1,1] Qm) t)) (QH O))))))) (Qf QC (cAt [1,1,0,1,0,0,1,1] Qm) t)) ((Ql QC (cAt [1,1,0,1,0,0] Qm) (Qt (fun t H d again => QJ O (cAt [1,1,0,1,0,0] Qm) (Ql QC (cAt [1,1,0,1,0,0] Qm) again ((Qe 0 ((Qg (fun _ t => QJ O (cAt [1,1,1] Qm) (QH O) (Qf QC (cAt [1,1,1] Qm) t)) (QH O)))))) t H d)) ((Qe 0 ((Qg (fun _ t => QJ O (cAt [1,1,1] Qm) (QH O) (Qf QC (cAt [1,1,1] Qm) t)) (QH O))))))))))))))) _ H []).trans (by kernel_rfl)
theorem Cy (O : Nat) (t0 t1 t5 : V) (H : Qa) : Ej O t0 t1 t5 H =
 bnd (QM t0) fun v2 =>
 bnd (Qb .lss 6 t5 v2) fun v3 =>
 cnd v3
 (bnd (Qx 6 t0 t5) fun v4 =>
 bnd (Qc true 6 H v4) fun v5 =>
 bnd (Qb .sub 6 t5 (.int .i64 1)) fun v6 =>
 bnd (Qx 6 t0 v6) fun v7 =>
 bnd (Qc true 6 H v7) fun v8 =>
 bcall (J6 E t1 [v5,v8] H) (fun v9 h10 =>
 cnd v9
 (bnd (JO 6 t0 (some t5) none none) fun v11 =>
 RO O t0 t1 t5 v11 (.int .i64 1) h10)
 (bnd (Qb .add 6 t5 (.int .i64 1)) fun v33 =>
 Ej O t0 t1 v33 h10))
 (fun v9 h10 => pn false O v9 h10))
 (rt false O t0 H) := (Za (cAt [1,1,0,1,0,0] Qm) ((Qe 0 ((Qg (fun _ t => QJ O (cAt [1,1,1] Qm) (QH O) (Qf QC (cAt [1,1,1] Qm) t)) (QH O))))) _ H []).trans (by kernel_rfl)
def QcU (O : Nat) (t0 t1 : V) (H : Qa) : Option (Out × Qa) := QJ O Qm (QH O) [(0,t0),(1,t1)] H []
theorem Qb7 (O : Nat) (t0 t1 : V) (H : Qa) : QcU O t0 t1 H =
 bnd (QM t0) fun v0 =>
 bnd (Qb .lss 6 v0 (.int .i64 2)) fun v1 =>
 cnd v1
 (rt false O t0 H)
 (Ej O t0 t1 (.int .i64 1) H) := by kernel_rfl
theorem XK (t0 t1 : V) (H : Qa) : E Fe [t0,t1] H = QcU H.length t0 t1 H := (QR Tryd.func65 (by kernel_rfl) (by kernel_rfl) (by kernel_rfl)).trans (by kernel_rfl)
def Qqf : Code := QO Tryd.f66
def QoK : Ks := []
def QpZ (O : Nat) : KC (Out × Qa) := QP Tryd.prog D false O 10 Tryd.f66.results.toList
def QpG (O : Nat) (c : Code) (k : KC (Out × Qa)) (t : Ts) (H : Qa) (d : Ds) : Option (Out × Qa) := xC Tryd.prog O false QoK E 10 c k t H d
def QfH (O : Nat) (t0 t1 : V) (H : Qa) : Option (Out × Qa) := QpG O Qqf (QpZ O) [(0,t0),(1,t1)] H []
theorem QqH (O : Nat) (t0 t1 : V) (H : Qa) : QfH O t0 t1 H =
 beff (QD H t0) fun v0 h1 =>
 beff (QD h1 t1) fun v2 h3 =>
 bnd (Qc true 6 h3 v0) fun v4 =>
 bcall (E Quc [v4] h3) (fun v5 h6 =>
 bnd (bnd (Qc true 6 h6 v2) fun v7 => sch (sam (Qc true 6 h3 v2) v7) (
 some v7)) fun v7 =>
 bcall (E Quc [v7] h6) (fun v8 h9 =>
 bnd (Qb .eql 6 v5 v8) fun v10 =>
 rt false O v10 h9)
 (fun v8 h9 => pn false O v8 h9))
 (fun v5 h6 => sch (tlb (Qc true 6 h3 v2) fun v11 => true) (pn false O v5 h6)) := by kernel_rfl
theorem Qjg (t0 t1 : V) (H : Qa) : E Bv [t0,t1] H = QfH H.length t0 t1 H := (QR Tryd.func66 (by kernel_rfl) (by kernel_rfl) (by kernel_rfl)).trans (by kernel_rfl)
def Qni : Code := QO Tryd.f67
def QkJ : Ks := []
def QhG (O : Nat) : KC (Out × Qa) := QP Tryd.prog D false O 8 Tryd.f67.results.toList
def Qoj (O : Nat) (c : Code) (k : KC (Out × Qa)) (t : Ts) (H : Qa) (d : Ds) : Option (Out × Qa) := xC Tryd.prog O false QkJ E 8 c k t H d
def QeO (O : Nat) (t0 t1 : V) (H : Qa) : Option (Out × Qa) := Qoj O Qni (QhG O) [(0,t0),(1,t1)] H []
theorem Qoz (O : Nat) (t0 t1 : V) (H : Qa) : QeO O t0 t1 H =
 beff (QD H t0) fun v0 h1 =>
 bnd (Qq v0 0) fun v2 =>
 bnd (Qc false 1 h1 v2) fun v3 =>
 bnd (Qc false 1 h1 t1) fun v4 =>
 bnd (Qb .eql 6 v3 v4) fun v5 =>
 rt false O v5 h1 := by kernel_rfl
theorem QnM (t0 t1 : V) (H : Qa) : E Jk [t0,t1] H = QeO H.length t0 t1 H := (QR Tryd.func67 (by kernel_rfl) (by kernel_rfl) (by kernel_rfl)).trans (by kernel_rfl)
def Y9 : Code := QO Tryd.f68
def Vm : Ks := [(3,[1,3,4]),(4,[1,3,4])]
def KV (O : Nat) : KC (Out × Qa) := QP Tryd.prog D false O 42 Tryd.f68.results.toList
def WL (O : Nat) (c : Code) (k : KC (Out × Qa)) (t : Ts) (H : Qa) (d : Ds) : Option (Out × Qa) := xC Tryd.prog O false Vm E 42 c k t H d
def QrP (O : Nat) (t1 t3 t4 : V) (H : Qa) : Option (Out × Qa) :=
Qt (fun t H d again => WL O (cAt [1,1,0,1,0,0] Y9) (Ql Vm (cAt [1,1,0,1,0,0] Y9) again ((Qe 0 ((Qg (fun _ t => WL O (cAt [1,1,1] Y9) (KV O) (Qf Vm (cAt [1,1,1] Y9) t)) (KV O)))))) t H d) [(1,t1),(3,t3),(4,t4)] H []
def NL (O : Nat) (t1 t3 t4 : V) (H : Qa) : Option (Out × Qa) :=
WL O (cAt [1,1,0,1,0,0,1,1] Y9) ((Ql Vm (cAt [1,1,0,1,0,0] Y9) (Qt (fun t H d again => WL O (cAt [1,1,0,1,0,0] Y9) (Ql Vm (cAt [1,1,0,1,0,0] Y9) again ((Qe 0 ((Qg (fun _ t => WL O (cAt [1,1,1] Y9) (KV O) (Qf Vm (cAt [1,1,1] Y9) t)) (KV O)))))) t H d)) ((Qe 0 ((Qg (fun _ t => WL O (cAt [1,1,1] Y9) (KV O) (Qf Vm (cAt [1,1,1] Y9) t)) (KV O))))))) [(1,t1),(3,t3),(4,t4)] H []
theorem QpX (O : Nat) (t1 t3 t4 : V) (H : Qa) : NL O t1 t3 t4 H =
 bnd (Qb .add 6 t4 (.int .i64 1)) fun v7 =>
 QrP O t1 t3 v7 H := by kernel_rfl
theorem Qqv (O : Nat) (t1 t3 t4 : V) (H : Qa) : QrP O t1 t3 t4 H =
 bnd (Qb .lss 6 t4 (.int .i64 256)) fun v2 =>
 cnd v2
 (bnd (Qc true 4 H t1) fun v3 =>
 bcall (E Vy [v3,t4] H) (fun v4 h5 =>
 bnd (oUn .not v4) fun v6 =>
 cnd v6
 (NL O t1 t3 t4 h5)
 (bnd (QM t3) fun v8 =>
 bnd (Qb .gtr 6 v8 (.int .i64 0)) fun v9 =>
 bnd (gua v9 true (QL t3) (some (.tup []))) fun v10 =>
 bnd (gua v9 true (QL t3) (some (.tup []))) fun v11 =>
 bnd (gua v9 true (QM v11) (some (.tup []))) fun v12 =>
 bnd (gua v9 true (Qb .sub 6 v12 (.int .i64 1)) (some (.tup []))) fun v13 =>
 bnd (gua v9 true (Qx 2 v10 v13) (some (.tup []))) fun v14 =>
 bnd (gua v9 true (Qq v14 1) (some (.tup []))) fun v15 =>
 bnd (gua v9 true (Qc false 1 h5 v15) (some (.tup []))) fun v16 =>
 bnd (gua v9 true (QL t4) (some (.tup []))) fun v17 =>
 bnd (gua v9 true (Qb .sub 6 v17 (.int .i64 1)) (some (.tup []))) fun v18 =>
 bnd (gua v9 true (Qb .eql 6 v16 v18) (some (.tup []))) fun v19 =>
 bnd (QY v9 v19 (.bool false)) fun v20 =>
 cnd v20
 (bnd (QM t3) fun v21 =>
 bnd (Qb .sub 6 v21 (.int .i64 1)) fun v22 =>
 bnd (Qx 2 t3 v22) fun v23 =>
 bnd (Qq v23 1) fun v24 =>
 beff (Qs O 1 h5 v24 t4) fun v25 h26 =>
 NL O t1 t3 t4 h26)
 (bnd (Zj [(.int .i64 0),(.int .i64 0)] [(0,1),(1,1)] [(0,t4),(1,t4)]) fun v27 =>
 bnd (Zq 2 1 (.agg [(.int .i64 0),(.int .i64 0)]) [(0,v27)]) fun v28 =>
 beff (Z1 O 2 16 true t3 v28 h5) fun v29 h30 =>
 NL O t1 v29 t4 h30)))
 (fun v4 h5 => pn false O v4 h5))
 (rt false O t3 H) := (Za (cAt [1,1,0,1,0,0] Y9) ((Qe 0 ((Qg (fun _ t => WL O (cAt [1,1,1] Y9) (KV O) (Qf Vm (cAt [1,1,1] Y9) t)) (KV O))))) _ H []).trans (by kernel_rfl)
def Qhv (O : Nat) (t0 : V) (H : Qa) : Option (Out × Qa) := WL O Y9 (KV O) [(0,t0)] H []
theorem Qkp (O : Nat) (t0 : V) (H : Qa) : Qhv O t0 H =
 beff (QD H t0) fun v0 h1 =>
 QrP O v0 .nils (.int .i64 0) h1 := by kernel_rfl
theorem Qll (t0 : V) (H : Qa) : E DO [t0] H = Qhv H.length t0 H := (QR Tryd.func68 (by kernel_rfl) (by kernel_rfl) (by kernel_rfl)).trans (by kernel_rfl)
def Qjl : Code := QO Tryd.f69
def Qi7 : Ks := []
def Qnu (O : Nat) : KC (Out × Qa) := QP Tryd.prog D false O 18 Tryd.f69.results.toList
def QlU (O : Nat) (c : Code) (k : KC (Out × Qa)) (t : Ts) (H : Qa) (d : Ds) : Option (Out × Qa) := xC Tryd.prog O false Qi7 E 18 c k t H d
def QbZ (O : Nat) (t0 : V) (H : Qa) : Option (Out × Qa) := QlU O Qjl (Qnu O) [(0,t0)] H []
theorem Qin (O : Nat) (t0 : V) (H : Qa) : QbZ O t0 H =
 bnd (Qb .rem 6 t0 (.int .i64 10)) fun v0 =>
 bnd (Qb .add 6 (.int .i64 48) v0) fun v1 =>
 bnd (Yc .u8 v1) fun v2 =>
 bnd (Zq 1 1 (.int .u8 0) [(0,v2)]) fun v3 =>
 bnd (JV H v3) fun v4 =>
 bnd (Qb .lss 6 t0 (.int .i64 10)) fun v5 =>
 cnd v5
 (rt false O v4 H)
 (bnd (Qb .quo 6 t0 (.int .i64 10)) fun v6 =>
 bcall (E BF [v6] H) (fun v7 h8 =>
 bnd (Qb .add 6 v7 v4) fun v9 =>
 rt false O v9 h8)
 (fun v7 h8 => pn false O v7 h8)) := by kernel_rfl
theorem Qmy (t0 : V) (H : Qa) : E BF [t0] H = QbZ H.length t0 H := (QR Tryd.func69 (by kernel_rfl) (by kernel_rfl) (by kernel_rfl)).trans (by kernel_rfl)
end
end Go.Proofs.YtdnmpaielmfiiaaDoor
end
