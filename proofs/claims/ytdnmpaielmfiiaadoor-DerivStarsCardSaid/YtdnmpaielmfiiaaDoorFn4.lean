/- Fn4: a part of the proof that each law of this seat answers true at every input. No condition. -/
import Derived.Test.YtdnmpaielmfiiaaDoorHint
import Derived.KernelRfl
set_option linter.unusedVariables false
set_option linter.unusedSimpArgs false
set_option maxRecDepth 20000
section
namespace Go.Proofs.YtdnmpaielmfiiaaDoor
open Go Go.Ev
noncomputable section
def Zz : Code := QO Tryd.f71
def Yx : Ks := [(2,[0,1,2,6,7,8]),(7,[0,1,2,6]),(9,[0,1,2,6,7,8]),(16,[0,1,2,6])]
def YG (O : Nat) : KC (Out × Qa) := QP Tryd.prog D false O 63 Tryd.f71.results.toList
def Js (O : Nat) (c : Code) (k : KC (Out × Qa)) (t : Ts) (H : Qa) (d : Ds) : Option (Out × Qa) := xC Tryd.prog O true Yx E 63 c k t H d
def Ea (O : Nat) (t0 t1 t2 t6 t7 t8 : V) (H : Qa) : Option (Out × Qa) :=
Qt (fun t H d again => Js O (cAt [1,1,0,0,0] Zz) (Ql Yx (cAt [1,1,0,0,0] Zz) again ((Qe 0 ((Qg (fun _ t => Js O (cAt [1,1,1] Zz) (YG O) (Qf Yx (cAt [1,1,1] Zz) t)) (YG O)))))) t H d) [(0,t0),(1,t1),(2,t2),(6,t6),(7,t7),(8,t8)] H []
def Ui (O : Nat) (t0 t1 t2 t6 : V) (H : Qa) : Option (Out × Qa) :=
Qt (fun t H d again => Js O (cAt [1,1,1,1,0,0] Zz) (Ql Yx (cAt [1,1,1,1,0,0] Zz) again ((Qe 2 (YG O)))) t H d) [(0,t0),(1,t1),(2,t2),(6,t6)] H []
def Fw (O : Nat) (t0 t1 t2 t6 t7 t8 : V) (H : Qa) : Option (Out × Qa) :=
Qt (fun t H d again => Js O (cAt [1,1,1,1,0,0,1,0,1,0,0,0] Zz) (Ql Yx (cAt [1,1,1,1,0,0,1,0,1,0,0,0] Zz) again ((Qe 4 ((Qg (fun _ t => Js O (cAt [1,1,1,1,0,0,1,0,1,1] Zz) ((Qe 3 ((Ql Yx (cAt [1,1,1,1,0,0] Zz) (Qt (fun t H d again => Js O (cAt [1,1,1,1,0,0] Zz) (Ql Yx (cAt [1,1,1,1,0,0] Zz) again ((Qe 2 (YG O)))) t H d)) ((Qe 2 (YG O))))))) (Qf Yx (cAt [1,1,1,1,0,0,1,0,1,1] Zz) t)) ((Qe 3 ((Ql Yx (cAt [1,1,1,1,0,0] Zz) (Qt (fun t H d again => Js O (cAt [1,1,1,1,0,0] Zz) (Ql Yx (cAt [1,1,1,1,0,0] Zz) again ((Qe 2 (YG O)))) t H d)) ((Qe 2 (YG O)))))))))))) t H d) [(0,t0),(1,t1),(2,t2),(6,t6),(7,t7),(8,t8)] H []
def Po (O : Nat) (t0 t1 t2 t6 : V) (H : Qa) : Option (Out × Qa) :=
Js O (cAt [1,1,1,1,0,0,1,0,1,1,1] Zz) ((Qe 3 ((Ql Yx (cAt [1,1,1,1,0,0] Zz) (Qt (fun t H d again => Js O (cAt [1,1,1,1,0,0] Zz) (Ql Yx (cAt [1,1,1,1,0,0] Zz) again ((Qe 2 (YG O)))) t H d)) ((Qe 2 (YG O))))))) [(0,t0),(1,t1),(2,t2),(6,t6)] H []
theorem XA (O : Nat) (t0 t1 t2 t6 : V) (H : Qa) : Po O t0 t1 t2 t6 H =
 bnd (Qb .mul 6 t6 (.int .i64 2)) fun v18 =>
 Ui O t0 t1 t2 v18 H := by kernel_rfl
theorem FE (O : Nat) (t0 t1 t2 t6 t7 t8 : V) (H : Qa) : Fw O t0 t1 t2 t6 t7 t8 H =
 bnd (Qb .leq 6 t8 t1) fun v8 =>
 cnd v8
 (bnd (Qb .add 6 t7 t6) fun v9 =>
 bcall (E Bf [t0,t7,v9,t8,t2] H) (fun v10 h11 =>
 bnd (Qb .mul 6 (.int .i64 2) t6) fun v12 =>
 bnd (Qb .add 6 t8 v12) fun v13 =>
 Fw O t0 t1 t2 t6 t8 v13 h11)
 (fun v10 h11 => pn false O v10 h11))
 (bnd (Qb .add 6 t7 t6) fun v14 =>
 bnd (Qb .lss 6 v14 t1) fun v15 =>
 cnd v15
 (bcall (E Bf [t0,t7,v14,t1,t2] H) (fun v16 h17 =>
 Po O t0 t1 t2 t6 h17)
 (fun v16 h17 => pn false O v16 h17))
 (Po O t0 t1 t2 t6 H)) := (Za (cAt [1,1,1,1,0,0,1,0,1,0,0,0] Zz) ((Qe 4 ((Qg (fun _ t => Js O (cAt [1,1,1,1,0,0,1,0,1,1] Zz) ((Qe 3 ((Ql Yx (cAt [1,1,1,1,0,0] Zz) (Qt (fun t H d again => Js O (cAt [1,1,1,1,0,0] Zz) (Ql Yx (cAt [1,1,1,1,0,0] Zz) again ((Qe 2 (YG O)))) t H d)) ((Qe 2 (YG O))))))) (Qf Yx (cAt [1,1,1,1,0,0,1,0,1,1] Zz) t)) ((Qe 3 ((Ql Yx (cAt [1,1,1,1,0,0] Zz) (Qt (fun t H d again => Js O (cAt [1,1,1,1,0,0] Zz) (Ql Yx (cAt [1,1,1,1,0,0] Zz) again ((Qe 2 (YG O)))) t H d)) ((Qe 2 (YG O))))))))))) _ H []).trans (by kernel_rfl)
theorem Pu (O : Nat) (t0 t1 t2 t6 : V) (H : Qa) : Ui O t0 t1 t2 t6 H =
 bnd (Qb .lss 6 t6 t1) fun v6 =>
 cnd v6
 (bnd (Qb .mul 6 (.int .i64 2) t6) fun v7 =>
 Fw O t0 t1 t2 t6 (.int .i64 0) v7 H)
 (rt false O (.tup []) H) := (Za (cAt [1,1,1,1,0,0] Zz) ((Qe 2 (YG O))) _ H []).trans (by kernel_rfl)
theorem L4 (O : Nat) (t0 t1 t2 t6 t7 t8 : V) (H : Qa) : Ea O t0 t1 t2 t6 t7 t8 H =
 bnd (Qb .leq 6 t8 t1) fun v0 =>
 cnd v0
 (bcall (E Nh [t0,t7,t8,t2] H) (fun v1 h2 =>
 bnd (Qb .add 6 t8 t6) fun v3 =>
 Ea O t0 t1 t2 t6 t8 v3 h2)
 (fun v1 h2 => pn false O v1 h2))
 (bcall (E Nh [t0,t7,t1,t2] H) (fun v4 h5 =>
 Ui O t0 t1 t2 t6 h5)
 (fun v4 h5 => pn false O v4 h5)) := (Za (cAt [1,1,0,0,0] Zz) ((Qe 0 ((Qg (fun _ t => Js O (cAt [1,1,1] Zz) (YG O) (Qf Yx (cAt [1,1,1] Zz) t)) (YG O))))) _ H []).trans (by kernel_rfl)
def QdX (O : Nat) (t0 t1 t2 : V) (H : Qa) : Option (Out × Qa) := Js O Zz (YG O) [(0,t0),(1,t1),(2,t2)] H []
theorem XM (O : Nat) (t0 t1 t2 : V) (H : Qa) : QdX O t0 t1 t2 H =
 Ea O t0 t1 t2 (.int .i64 20) (.int .i64 0) (.int .i64 20) H := by kernel_rfl
theorem QeQ (t0 t1 t2 : V) (H : Qa) : E Xw [t0,t1,t2] H = QdX H.length t0 t1 t2 H := (QR Tryd.func71 (by kernel_rfl) (by kernel_rfl) (by kernel_rfl)).trans (by kernel_rfl)
def Yb : Code := QO Tryd.f76
def JE : Ks := [(1,[0,1,2,3,8]),(4,[0,1,2,3,8,9])]
def Kf (O : Nat) : KC (Out × Qa) := QP Tryd.prog D false O 53 Tryd.f76.results.toList
def WB (O : Nat) (c : Code) (k : KC (Out × Qa)) (t : Ts) (H : Qa) (d : Ds) : Option (Out × Qa) := xC Tryd.prog O true JE E 53 c k t H d
def RZ (O : Nat) (t0 t1 t2 t3 t8 : V) (H : Qa) : Option (Out × Qa) :=
Qt (fun t H d again => WB O (cAt [1,0,0] Yb) (Ql JE (cAt [1,0,0] Yb) again ((Qe 0 (Kf O)))) t H d) [(0,t0),(1,t1),(2,t2),(3,t3),(8,t8)] H []
def Fz (O : Nat) (t0 t1 t2 t3 t8 t9 : V) (H : Qa) : Option (Out × Qa) :=
Qt (fun t H d again => WB O (cAt [1,0,0,1,0,0,1,0,0] Yb) (Ql JE (cAt [1,0,0,1,0,0,1,0,0] Yb) again ((Qe 2 ((Qe 1 ((Qg (fun _ t => WB O (cAt [1,0,0,1,1] Yb) ((Ql JE (cAt [1,0,0] Yb) (Qt (fun t H d again => WB O (cAt [1,0,0] Yb) (Ql JE (cAt [1,0,0] Yb) again ((Qe 0 (Kf O)))) t H d)) ((Qe 0 (Kf O))))) (Qf JE (cAt [1,0,0,1,1] Yb) t)) ((Ql JE (cAt [1,0,0] Yb) (Qt (fun t H d again => WB O (cAt [1,0,0] Yb) (Ql JE (cAt [1,0,0] Yb) again ((Qe 0 (Kf O)))) t H d)) ((Qe 0 (Kf O)))))))))))) t H d) [(0,t0),(1,t1),(2,t2),(3,t3),(8,t8),(9,t9)] H []
theorem E4 (O : Nat) (t0 t1 t2 t3 t8 t9 : V) (H : Qa) : Fz O t0 t1 t2 t3 t8 t9 H =
 bnd (Qb .gtr 6 t9 t1) fun v2 =>
 bnd (gua v2 true (QL t3) (some (.tup []))) fun v3 =>
 bnd (gua v2 true (QL t0) (some (.tup []))) fun v4 =>
 bnd (gua v2 true (QL t9) (some (.tup []))) fun v5 =>
 bnd (gua v2 true (Qx 6 v4 v5) (some (.tup []))) fun v6 =>
 bnd (gua v2 true (Qc true 6 H v6) (some (.tup []))) fun v7 =>
 bnd (gua v2 true (QL t0) (some (.tup []))) fun v8 =>
 bnd (gua v2 true (QL t9) (some (.tup []))) fun v9 =>
 bnd (gua v2 true (Qb .sub 6 v9 (.int .i64 1)) (some (.tup []))) fun v10 =>
 bnd (gua v2 true (Qx 6 v8 v10) (some (.tup []))) fun v11 =>
 bnd (gua v2 true (Qc true 6 H v11) (some (.tup []))) fun v12 =>
 bcall (gua v2 true (J6 E v3 [v7,v12] H) (some (.ret (.tup []),H))) (fun v13 h14 =>
 bnd (gua v2 true (Qb .lss 6 v13 (.int .i64 0)) (some (.tup []))) fun v15 =>
 bnd (QY v2 v15 (.bool false)) fun v16 =>
 cnd v16
 (bnd (Qb .sub 6 t9 (.int .i64 1)) fun v17 =>
 bnd (Qb .sub 6 t9 (.int .i64 1)) fun v18 =>
 bnd (Qx 6 t0 v18) fun v19 =>
 bnd (Qc true 6 h14 v19) fun v20 =>
 bnd (Qx 6 t0 t9) fun v21 =>
 bnd (Qc true 6 h14 v21) fun v22 =>
 bnd (Qx 6 t0 t9) fun v23 =>
 beff (Qs O 6 h14 v23 v20) fun v24 h25 =>
 bnd (Qx 6 t0 v17) fun v26 =>
 beff (Qs O 6 h25 v26 v22) fun v27 h28 =>
 bnd (Qb .sub 6 t9 (.int .i64 1)) fun v29 =>
 Fz O t0 t1 t2 t3 t8 v29 h28)
 (bnd (Qb .add 6 t8 (.int .i64 1)) fun v30 =>
 RZ O t0 t1 t2 t3 v30 h14))
 (fun v13 h14 => pn false O v13 h14) := (Za (cAt [1,0,0,1,0,0,1,0,0] Yb) ((Qe 2 ((Qe 1 ((Qg (fun _ t => WB O (cAt [1,0,0,1,1] Yb) ((Ql JE (cAt [1,0,0] Yb) (Qt (fun t H d again => WB O (cAt [1,0,0] Yb) (Ql JE (cAt [1,0,0] Yb) again ((Qe 0 (Kf O)))) t H d)) ((Qe 0 (Kf O))))) (Qf JE (cAt [1,0,0,1,1] Yb) t)) ((Ql JE (cAt [1,0,0] Yb) (Qt (fun t H d again => WB O (cAt [1,0,0] Yb) (Ql JE (cAt [1,0,0] Yb) again ((Qe 0 (Kf O)))) t H d)) ((Qe 0 (Kf O))))))))))) _ H []).trans (by kernel_rfl)
theorem Qrf (O : Nat) (t0 t1 t2 t3 t8 : V) (H : Qa) : RZ O t0 t1 t2 t3 t8 H =
 bnd (Qb .lss 6 t8 t2) fun v1 =>
 cnd v1
 (Fz O t0 t1 t2 t3 t8 t8 H)
 (rt false O (.tup []) H) := (Za (cAt [1,0,0] Yb) ((Qe 0 (Kf O))) _ H []).trans (by kernel_rfl)
def QcC (O : Nat) (t0 t1 t2 t3 : V) (H : Qa) : Option (Out × Qa) := WB O Yb (Kf O) [(0,t0),(1,t1),(2,t2),(3,t3)] H []
theorem AT (O : Nat) (t0 t1 t2 t3 : V) (H : Qa) : QcC O t0 t1 t2 t3 H =
 bnd (Qb .add 6 t1 (.int .i64 1)) fun v0 =>
 RZ O t0 t1 t2 t3 v0 H := by kernel_rfl
theorem AP (t0 t1 t2 t3 : V) (H : Qa) : E Nh [t0,t1,t2,t3] H = QcC H.length t0 t1 t2 t3 H := (QR Tryd.func76 (by kernel_rfl) (by kernel_rfl) (by kernel_rfl)).trans (by kernel_rfl)
def QG : Code := QO Tryd.f77
def ZD : Ks := [(3,[0,1,4,10,11]),(9,[0,10,13]),(15,[0,2,4,14,15]),(21,[0,14,17]),(32,[0,1,2,3,4,18,19,20,21]),(33,[0,1,2,3,4,18,19,20,21,22]),(41,[0,1,3,4,18,20,24]),(43,[0,3,4,18,24])]
def Zg (O : Nat) : KC (Out × Qa) := QP Tryd.prog D false O 220 Tryd.f77.results.toList
def Zr (O : Nat) (c : Code) (k : KC (Out × Qa)) (t : Ts) (H : Qa) (d : Ds) : Option (Out × Qa) := xC Tryd.prog O true ZD E 220 c k t H d
def Lk (O : Nat) (t0 t1 t4 t10 t11 : V) (H : Qa) : Option (Out × Qa) :=
Qt (fun t H d again => Zr O (cAt [0,1,0,1,1,0,0,0] QG) (Ql ZD (cAt [0,1,0,1,1,0,0,0] QG) again ((Qe 0 ((Qg (fun _ t => Zr O (cAt [0,1,0,1,1,1] QG) ((Qg (fun _ t => Zr O (cAt [1] QG) (Zg O) (Qf ZD (cAt [1] QG) t)) (Zg O))) (Qf ZD (cAt [0,1,0,1,1,1] QG) t)) ((Qg (fun _ t => Zr O (cAt [1] QG) (Zg O) (Qf ZD (cAt [1] QG) t)) (Zg O)))))))) t H d) [(0,t0),(1,t1),(4,t4),(10,t10),(11,t11)] H []
def Ps (O : Nat) (t0 t10 t13 : V) (H : Qa) : Option (Out × Qa) :=
Qt (fun t H d again => Zr O (cAt [0,1,0,1,1,1,0,1,0,0] QG) (Ql ZD (cAt [0,1,0,1,1,1,0,1,0,0] QG) again ((Qe 2 ((Qg (fun _ t => Zr O (cAt [0,1,0,1,1,1,1] QG) ((Qg (fun _ t => Zr O (cAt [1] QG) (Zg O) (Qf ZD (cAt [1] QG) t)) (Zg O))) (Qf ZD (cAt [0,1,0,1,1,1,1] QG) t)) ((Qg (fun _ t => Zr O (cAt [1] QG) (Zg O) (Qf ZD (cAt [1] QG) t)) (Zg O)))))))) t H d) [(0,t0),(10,t10),(13,t13)] H []
theorem Qhp (O : Nat) (t0 t10 t13 : V) (H : Qa) : Ps O t0 t10 t13 H =
 bnd (Qb .sub 6 t10 (.int .i64 1)) fun v15 =>
 bnd (Qb .lss 6 t13 v15) fun v16 =>
 cnd v16
 (bnd (Qb .add 6 t13 (.int .i64 1)) fun v17 =>
 bnd (Qb .add 6 t13 (.int .i64 1)) fun v18 =>
 bnd (Qx 6 t0 v18) fun v19 =>
 bnd (Qc true 6 H v19) fun v20 =>
 bnd (Qx 6 t0 t13) fun v21 =>
 bnd (Qc true 6 H v21) fun v22 =>
 bnd (Qx 6 t0 t13) fun v23 =>
 beff (Qs O 6 H v23 v20) fun v24 h25 =>
 bnd (Qx 6 t0 v17) fun v26 =>
 beff (Qs O 6 h25 v26 v22) fun v27 h28 =>
 bnd (Qb .add 6 t13 (.int .i64 1)) fun v29 =>
 Ps O t0 t10 v29 h28)
 (rt false O (.tup []) H) := (Za (cAt [0,1,0,1,1,1,0,1,0,0] QG) ((Qe 2 ((Qg (fun _ t => Zr O (cAt [0,1,0,1,1,1,1] QG) ((Qg (fun _ t => Zr O (cAt [1] QG) (Zg O) (Qf ZD (cAt [1] QG) t)) (Zg O))) (Qf ZD (cAt [0,1,0,1,1,1,1] QG) t)) ((Qg (fun _ t => Zr O (cAt [1] QG) (Zg O) (Qf ZD (cAt [1] QG) t)) (Zg O))))))) _ H []).trans (by kernel_rfl)
theorem C6 (O : Nat) (t0 t1 t4 t10 t11 : V) (H : Qa) : Lk O t0 t1 t4 t10 t11 H =
 bnd (Qb .lss 6 t10 t11) fun v2 =>
 cnd v2
 (bnd (Qb .add 6 t10 t11) fun v3 =>
 bnd (Yc .u64 v3) fun v4 =>
 bnd (Qb .shr 6 v4 (.int .u64 1)) fun v5 =>
 bnd (Yc .i64 v5) fun v6 =>
 bnd (Qx 6 t0 v6) fun v7 =>
 bnd (Qc true 6 H v7) fun v8 =>
 bnd (Qx 6 t0 t1) fun v9 =>
 bnd (Qc true 6 H v9) fun v10 =>
 bcall (J6 E t4 [v8,v10] H) (fun v11 h12 =>
 bnd (Qb .lss 6 v11 (.int .i64 0)) fun v13 =>
 cnd v13
 (bnd (Qb .add 6 v6 (.int .i64 1)) fun v14 =>
 Lk O t0 t1 t4 v14 t11 h12)
 (Lk O t0 t1 t4 t10 v6 h12))
 (fun v11 h12 => pn false O v11 h12))
 (Ps O t0 t10 t1 H) := (Za (cAt [0,1,0,1,1,0,0,0] QG) ((Qe 0 ((Qg (fun _ t => Zr O (cAt [0,1,0,1,1,1] QG) ((Qg (fun _ t => Zr O (cAt [1] QG) (Zg O) (Qf ZD (cAt [1] QG) t)) (Zg O))) (Qf ZD (cAt [0,1,0,1,1,1] QG) t)) ((Qg (fun _ t => Zr O (cAt [1] QG) (Zg O) (Qf ZD (cAt [1] QG) t)) (Zg O))))))) _ H []).trans (by kernel_rfl)
def RV (O : Nat) (t0 t2 t4 t14 t15 : V) (H : Qa) : Option (Out × Qa) :=
Qt (fun t H d again => Zr O (cAt [1,0,1,0,1,1,0,0,0] QG) (Ql ZD (cAt [1,0,1,0,1,1,0,0,0] QG) again ((Qe 4 ((Qg (fun _ t => Zr O (cAt [1,0,1,0,1,1,1] QG) ((Qg (fun _ t => Zr O (cAt [1,1] QG) (Zg O) (Qf ZD (cAt [1,1] QG) t)) (Zg O))) (Qf ZD (cAt [1,0,1,0,1,1,1] QG) t)) ((Qg (fun _ t => Zr O (cAt [1,1] QG) (Zg O) (Qf ZD (cAt [1,1] QG) t)) (Zg O)))))))) t H d) [(0,t0),(2,t2),(4,t4),(14,t14),(15,t15)] H []
def FP (O : Nat) (t0 t14 t17 : V) (H : Qa) : Option (Out × Qa) :=
Qt (fun t H d again => Zr O (cAt [1,0,1,0,1,1,1,0,1,0,0] QG) (Ql ZD (cAt [1,0,1,0,1,1,1,0,1,0,0] QG) again ((Qe 6 ((Qg (fun _ t => Zr O (cAt [1,0,1,0,1,1,1,1] QG) ((Qg (fun _ t => Zr O (cAt [1,1] QG) (Zg O) (Qf ZD (cAt [1,1] QG) t)) (Zg O))) (Qf ZD (cAt [1,0,1,0,1,1,1,1] QG) t)) ((Qg (fun _ t => Zr O (cAt [1,1] QG) (Zg O) (Qf ZD (cAt [1,1] QG) t)) (Zg O)))))))) t H d) [(0,t0),(14,t14),(17,t17)] H []
theorem Ti (O : Nat) (t0 t14 t17 : V) (H : Qa) : FP O t0 t14 t17 H =
 bnd (Qb .gtr 6 t17 t14) fun v46 =>
 cnd v46
 (bnd (Qb .sub 6 t17 (.int .i64 1)) fun v47 =>
 bnd (Qb .sub 6 t17 (.int .i64 1)) fun v48 =>
 bnd (Qx 6 t0 v48) fun v49 =>
 bnd (Qc true 6 H v49) fun v50 =>
 bnd (Qx 6 t0 t17) fun v51 =>
 bnd (Qc true 6 H v51) fun v52 =>
 bnd (Qx 6 t0 t17) fun v53 =>
 beff (Qs O 6 H v53 v50) fun v54 h55 =>
 bnd (Qx 6 t0 v47) fun v56 =>
 beff (Qs O 6 h55 v56 v52) fun v57 h58 =>
 bnd (Qb .sub 6 t17 (.int .i64 1)) fun v59 =>
 FP O t0 t14 v59 h58)
 (rt false O (.tup []) H) := (Za (cAt [1,0,1,0,1,1,1,0,1,0,0] QG) ((Qe 6 ((Qg (fun _ t => Zr O (cAt [1,0,1,0,1,1,1,1] QG) ((Qg (fun _ t => Zr O (cAt [1,1] QG) (Zg O) (Qf ZD (cAt [1,1] QG) t)) (Zg O))) (Qf ZD (cAt [1,0,1,0,1,1,1,1] QG) t)) ((Qg (fun _ t => Zr O (cAt [1,1] QG) (Zg O) (Qf ZD (cAt [1,1] QG) t)) (Zg O))))))) _ H []).trans (by kernel_rfl)
theorem A6 (O : Nat) (t0 t2 t4 t14 t15 : V) (H : Qa) : RV O t0 t2 t4 t14 t15 H =
 bnd (Qb .lss 6 t14 t15) fun v32 =>
 cnd v32
 (bnd (Qb .add 6 t14 t15) fun v33 =>
 bnd (Yc .u64 v33) fun v34 =>
 bnd (Qb .shr 6 v34 (.int .u64 1)) fun v35 =>
 bnd (Yc .i64 v35) fun v36 =>
 bnd (Qx 6 t0 t2) fun v37 =>
 bnd (Qc true 6 H v37) fun v38 =>
 bnd (Qx 6 t0 v36) fun v39 =>
 bnd (Qc true 6 H v39) fun v40 =>
 bcall (J6 E t4 [v38,v40] H) (fun v41 h42 =>
 bnd (Qb .lss 6 v41 (.int .i64 0)) fun v43 =>
 bnd (oUn .not v43) fun v44 =>
 cnd v44
 (bnd (Qb .add 6 v36 (.int .i64 1)) fun v45 =>
 RV O t0 t2 t4 v45 t15 h42)
 (RV O t0 t2 t4 t14 v36 h42))
 (fun v41 h42 => pn false O v41 h42))
 (FP O t0 t14 t2 H) := (Za (cAt [1,0,1,0,1,1,0,0,0] QG) ((Qe 4 ((Qg (fun _ t => Zr O (cAt [1,0,1,0,1,1,1] QG) ((Qg (fun _ t => Zr O (cAt [1,1] QG) (Zg O) (Qf ZD (cAt [1,1] QG) t)) (Zg O))) (Qf ZD (cAt [1,0,1,0,1,1,1] QG) t)) ((Qg (fun _ t => Zr O (cAt [1,1] QG) (Zg O) (Qf ZD (cAt [1,1] QG) t)) (Zg O))))))) _ H []).trans (by kernel_rfl)
def N5 (O : Nat) (t0 t1 t2 t3 t4 t18 t19 t20 t21 t22 : V) (H : Qa) : Option (Out × Qa) :=
Qt (fun t H d again => Zr O (cAt [1,1,1,1,1,1,1,0,0,0] QG) (Ql ZD (cAt [1,1,1,1,1,1,1,0,0,0] QG) again ((Qe 8 ((Qg (fun _ t => Zr O (cAt [1,1,1,1,1,1,1,1] QG) (Zg O) (Qf ZD (cAt [1,1,1,1,1,1,1,1] QG) t)) (Zg O)))))) t H d) [(0,t0),(1,t1),(2,t2),(3,t3),(4,t4),(18,t18),(19,t19),(20,t20),(21,t21),(22,t22)] H []
def Mc (O : Nat) (t0 t3 t4 t18 t24 : V) (H : Qa) : Option (Out × Qa) :=
Zr O (cAt [1,1,1,1,1,1,1,1,1,1,1] QG) (Zg O) [(0,t0),(3,t3),(4,t4),(18,t18),(24,t24)] H []
theorem Cj (O : Nat) (t0 t3 t4 t18 t24 : V) (H : Qa) : Mc O t0 t3 t4 t18 t24 H =
 bnd (Qb .lss 6 t18 t24) fun v98 =>
 bnd (gua v98 true (QL t24) (some (.tup []))) fun v99 =>
 bnd (gua v98 true (QL t3) (some (.tup []))) fun v100 =>
 bnd (gua v98 true (Qb .lss 6 v99 v100) (some (.tup []))) fun v101 =>
 bnd (QY v98 v101 (.bool false)) fun v102 =>
 cnd v102
 (bcall (E Bf [t0,t18,t24,t3,t4] H) (fun v103 h104 =>
 rt false O (.tup []) h104)
 (fun v103 h104 => pn false O v103 h104))
 (rt false O (.tup []) H) := by kernel_rfl
def RL (O : Nat) (t0 t1 t3 t4 t18 t20 t24 : V) (H : Qa) : Option (Out × Qa) :=
Zr O (cAt [1,1,1,1,1,1,1,1,1,1] QG) (Zg O) [(0,t0),(1,t1),(3,t3),(4,t4),(18,t18),(20,t20),(24,t24)] H []
theorem Ch (O : Nat) (t0 t1 t3 t4 t18 t20 t24 : V) (H : Qa) : RL O t0 t1 t3 t4 t18 t20 t24 H =
 bnd (Qb .lss 6 t1 t20) fun v91 =>
 bnd (gua v91 true (QL t20) (some (.tup []))) fun v92 =>
 bnd (gua v91 true (QL t18) (some (.tup []))) fun v93 =>
 bnd (gua v91 true (Qb .lss 6 v92 v93) (some (.tup []))) fun v94 =>
 bnd (QY v91 v94 (.bool false)) fun v95 =>
 cnd v95
 (bcall (E Bf [t0,t1,t20,t18,t4] H) (fun v96 h97 =>
 Mc O t0 t3 t4 t18 t24 h97)
 (fun v96 h97 => pn false O v96 h97))
 (Mc O t0 t3 t4 t18 t24 H) := by kernel_rfl
theorem CE (O : Nat) (t0 t1 t2 t3 t4 t18 t19 t20 t21 t22 : V) (H : Qa) : N5 O t0 t1 t2 t3 t4 t18 t19 t20 t21 t22 H =
 bnd (Qb .lss 6 t20 t21) fun v68 =>
 cnd v68
 (bnd (Qb .add 6 t20 t21) fun v69 =>
 bnd (Yc .u64 v69) fun v70 =>
 bnd (Qb .shr 6 v70 (.int .u64 1)) fun v71 =>
 bnd (Yc .i64 v71) fun v72 =>
 bnd (Qb .sub 6 t22 v72) fun v73 =>
 bnd (Qx 6 t0 v73) fun v74 =>
 bnd (Qc true 6 H v74) fun v75 =>
 bnd (Qx 6 t0 v72) fun v76 =>
 bnd (Qc true 6 H v76) fun v77 =>
 bcall (J6 E t4 [v75,v77] H) (fun v78 h79 =>
 bnd (Qb .lss 6 v78 (.int .i64 0)) fun v80 =>
 bnd (oUn .not v80) fun v81 =>
 cnd v81
 (bnd (Qb .add 6 v72 (.int .i64 1)) fun v82 =>
 N5 O t0 t1 t2 t3 t4 t18 t19 v82 t21 t22 h79)
 (N5 O t0 t1 t2 t3 t4 t18 t19 t20 v72 t22 h79))
 (fun v78 h79 => pn false O v78 h79))
 (bnd (Qb .sub 6 t19 t20) fun v83 =>
 bnd (Qb .lss 6 t20 t2) fun v84 =>
 bnd (gua v84 true (QL t2) (some (.tup []))) fun v85 =>
 bnd (gua v84 true (QL v83) (some (.tup []))) fun v86 =>
 bnd (gua v84 true (Qb .lss 6 v85 v86) (some (.tup []))) fun v87 =>
 bnd (QY v84 v87 (.bool false)) fun v88 =>
 cnd v88
 (bcall (E Ad [t0,t20,t2,v83,t4] H) (fun v89 h90 =>
 RL O t0 t1 t3 t4 t18 t20 v83 h90)
 (fun v89 h90 => pn false O v89 h90))
 (RL O t0 t1 t3 t4 t18 t20 v83 H)) := (Za (cAt [1,1,1,1,1,1,1,0,0,0] QG) ((Qe 8 ((Qg (fun _ t => Zr O (cAt [1,1,1,1,1,1,1,1] QG) (Zg O) (Qf ZD (cAt [1,1,1,1,1,1,1,1] QG) t)) (Zg O))))) _ H []).trans (by kernel_rfl)
def EI (O : Nat) (t0 t1 t2 t3 t4 t18 t19 t20 t21 : V) (H : Qa) : Option (Out × Qa) :=
Zr O (cAt [1,1,1,1,1,1] QG) (Zg O) [(0,t0),(1,t1),(2,t2),(3,t3),(4,t4),(18,t18),(19,t19),(20,t20),(21,t21)] H []
theorem Qc0 (O : Nat) (t0 t1 t2 t3 t4 t18 t19 t20 t21 : V) (H : Qa) : EI O t0 t1 t2 t3 t4 t18 t19 t20 t21 H =
 bnd (Qb .sub 6 t19 (.int .i64 1)) fun v67 =>
 N5 O t0 t1 t2 t3 t4 t18 t19 t20 t21 v67 H := by kernel_rfl
def QbX (O : Nat) (t0 t1 t2 t3 t4 : V) (H : Qa) : Option (Out × Qa) := Zr O QG (Zg O) [(0,t0),(1,t1),(2,t2),(3,t3),(4,t4)] H []
theorem FY (O : Nat) (t0 t1 t2 t3 t4 : V) (H : Qa) : QbX O t0 t1 t2 t3 t4 H =
 bnd (Qb .sub 6 t2 t1) fun v0 =>
 bnd (Qb .eql 6 v0 (.int .i64 1)) fun v1 =>
 cnd v1
 (Lk O t0 t1 t4 t2 t3 H)
 (bnd (Qb .sub 6 t3 t2) fun v30 =>
 bnd (Qb .eql 6 v30 (.int .i64 1)) fun v31 =>
 cnd v31
 (RV O t0 t2 t4 t1 t2 H)
 (bnd (Qb .add 6 t1 t3) fun v60 =>
 bnd (Yc .u64 v60) fun v61 =>
 bnd (Qb .shr 6 v61 (.int .u64 1)) fun v62 =>
 bnd (Yc .i64 v62) fun v63 =>
 bnd (Qb .add 6 v63 t2) fun v64 =>
 bnd (Qb .gtr 6 t2 v63) fun v65 =>
 cnd v65
 (bnd (Qb .sub 6 v64 t3) fun v66 =>
 EI O t0 t1 t2 t3 t4 v63 v64 v66 v63 H)
 (EI O t0 t1 t2 t3 t4 v63 v64 t1 t2 H))) := by kernel_rfl
theorem LI (t0 t1 t2 t3 t4 : V) (H : Qa) : E Bf [t0,t1,t2,t3,t4] H = QbX H.length t0 t1 t2 t3 t4 H := (QR Tryd.func77 (by kernel_rfl) (by kernel_rfl) (by kernel_rfl)).trans (by kernel_rfl)
def WP : Code := QO Tryd.f81
def L8 : Ks := [(3,[3,7,8,9])]
def RP (O : Nat) : KC (Out × Qa) := QP Tryd.prog D false O 29 Tryd.f81.results.toList
def Qrg (O : Nat) (c : Code) (k : KC (Out × Qa)) (t : Ts) (H : Qa) (d : Ds) : Option (Out × Qa) := xC Tryd.prog O false L8 E 29 c k t H d
def Gc (O : Nat) (t3 t7 t8 t9 : V) (H : Qa) : Option (Out × Qa) :=
Qt (fun t H d again => Qrg O (cAt [1,1,0,1,0,0] WP) (Ql L8 (cAt [1,1,0,1,0,0] WP) again ((Qe 0 ((Qg (fun _ t => Qrg O (cAt [1,1,1] WP) (RP O) (Qf L8 (cAt [1,1,1] WP) t)) (RP O)))))) t H d) [(3,t3),(7,t7),(8,t8),(9,t9)] H []
theorem Ca (O : Nat) (t3 t7 t8 t9 : V) (H : Qa) : Gc O t3 t7 t8 t9 H =
 bnd (Qb .lss 6 t9 t8) fun v6 =>
 cnd v6
 (bnd (Qx 2 t7 t9) fun v7 =>
 bnd (Qc true 2 H v7) fun v8 =>
 beff (QD H (.agg [(.int .i64 0),(.int .i64 0)])) fun v9 h10 =>
 beff (Qs O 2 h10 v9 v8) fun v11 h12 =>
 bnd (Qq v9 0) fun v13 =>
 bnd (Qc false 1 h12 v13) fun v14 =>
 bcall (E Xj [v14] h12) (fun v15 h16 =>
 bnd (Qb .add 6 v15 (.str [45])) fun v17 =>
 bnd (Qq v9 1) fun v18 =>
 bnd (bnd (Qc false 1 h16 v18) fun v19 => sch (sam (Qc false 1 h12 v18) v19) (
 some v19)) fun v19 =>
 bcall (E Xj [v19] h16) (fun v20 h21 =>
 bnd (Qb .add 6 v17 v20) fun v22 =>
 bnd (Zq 1 1 (.str []) [(0,v22)]) fun v23 =>
 beff (Z1 O 1 16 false t3 v23 h21) fun v24 h25 =>
 bnd (Qb .add 6 t9 (.int .i64 1)) fun v26 =>
 Gc O v24 t7 t8 v26 h25)
 (fun v20 h21 => pn false O v20 h21))
 (fun v15 h16 => sch (tlb (Qq v9 1) fun v27 => tlb (Qc false 1 h12 v27) fun v28 => true) (pn false O v15 h16)))
 (bcall (E D3 [t3,(.str [44])] H) (fun v29 h30 =>
 bnd (Qb .add 6 (.str [91]) v29) fun v31 =>
 bnd (Qb .add 6 v31 (.str [93])) fun v32 =>
 rt false O v32 h30)
 (fun v29 h30 => pn false O v29 h30)) := (Za (cAt [1,1,0,1,0,0] WP) ((Qe 0 ((Qg (fun _ t => Qrg O (cAt [1,1,1] WP) (RP O) (Qf L8 (cAt [1,1,1] WP) t)) (RP O))))) _ H []).trans (by kernel_rfl)
def QfW (O : Nat) (t0 : V) (H : Qa) : Option (Out × Qa) := Qrg O WP (RP O) [(0,t0)] H []
theorem Qo8 (O : Nat) (t0 : V) (H : Qa) : QfW O t0 H =
 beff (QD H t0) fun v0 h1 =>
 bnd (Qc true 4 h1 v0) fun v2 =>
 bcall (E QfM [v2] h1) (fun v3 h4 =>
 bnd (QM v3) fun v5 =>
 Gc O .nils v3 v5 (.int .i64 0) h4)
 (fun v3 h4 => pn false O v3 h4) := by kernel_rfl
theorem Qkb (t0 : V) (H : Qa) : E Uj [t0] H = QfW H.length t0 H := (QR Tryd.func81 (by kernel_rfl) (by kernel_rfl) (by kernel_rfl)).trans (by kernel_rfl)
def Vd : Code := QO Tryd.f82
def P6 : Ks := [(2,[0,2,4,10,11])]
def Mo (O : Nat) : KC (Out × Qa) := QP Tryd.prog D false O 58 Tryd.f82.results.toList
def P4 (O : Nat) (c : Code) (k : KC (Out × Qa)) (t : Ts) (H : Qa) (d : Ds) : Option (Out × Qa) := xC Tryd.prog O true P6 E 58 c k t H d
def MW (O : Nat) (t0 t2 t4 t10 t11 : V) (H : Qa) : Option (Out × Qa) :=
Qt (fun t H d again => P4 O (cAt [1,1,0,0,0] Vd) (Ql P6 (cAt [1,1,0,0,0] Vd) again ((Qe 0 ((Qg (fun _ t => P4 O (cAt [1,1,1] Vd) (Mo O) (Qf P6 (cAt [1,1,1] Vd) t)) (Mo O)))))) t H d) [(0,t0),(2,t2),(4,t4),(10,t10),(11,t11)] H []
theorem QlG (O : Nat) (t0 t2 t4 t10 t11 : V) (H : Qa) : MW O t0 t2 t4 t10 t11 H =
 bnd (Qb .neq 6 t10 t11) fun v2 =>
 cnd v2
 (bnd (Qb .gtr 6 t10 t11) fun v3 =>
 cnd v3
 (bnd (Qb .sub 6 t2 t10) fun v4 =>
 bcall (E NW [t0,v4,t2,t11,t4] H) (fun v5 h6 =>
 bnd (Qb .sub 6 t10 t11) fun v7 =>
 MW O t0 t2 t4 v7 t11 h6)
 (fun v5 h6 => pn false O v5 h6))
 (bnd (Qb .sub 6 t2 t10) fun v8 =>
 bnd (Qb .add 6 t2 t11) fun v9 =>
 bnd (Qb .sub 6 v9 t10) fun v10 =>
 bcall (E NW [t0,v8,v10,t10,t4] H) (fun v11 h12 =>
 bnd (Qb .sub 6 t11 t10) fun v13 =>
 MW O t0 t2 t4 t10 v13 h12)
 (fun v11 h12 => pn false O v11 h12)))
 (bnd (Qb .sub 6 t2 t10) fun v14 =>
 bcall (E NW [t0,v14,t2,t10,t4] H) (fun v15 h16 =>
 rt false O (.tup []) h16)
 (fun v15 h16 => pn false O v15 h16)) := (Za (cAt [1,1,0,0,0] Vd) ((Qe 0 ((Qg (fun _ t => P4 O (cAt [1,1,1] Vd) (Mo O) (Qf P6 (cAt [1,1,1] Vd) t)) (Mo O))))) _ H []).trans (by kernel_rfl)
def QaT (O : Nat) (t0 t1 t2 t3 t4 : V) (H : Qa) : Option (Out × Qa) := P4 O Vd (Mo O) [(0,t0),(1,t1),(2,t2),(3,t3),(4,t4)] H []
theorem QmI (O : Nat) (t0 t1 t2 t3 t4 : V) (H : Qa) : QaT O t0 t1 t2 t3 t4 H =
 bnd (Qb .sub 6 t2 t1) fun v0 =>
 bnd (Qb .sub 6 t3 t2) fun v1 =>
 MW O t0 t2 t4 v0 v1 H := by kernel_rfl
theorem QqC (t0 t1 t2 t3 t4 : V) (H : Qa) : E Ad [t0,t1,t2,t3,t4] H = QaT H.length t0 t1 t2 t3 t4 H := (QR Tryd.func82 (by kernel_rfl) (by kernel_rfl) (by kernel_rfl)).trans (by kernel_rfl)
def FN : Code := QO Tryd.f87
def QeN : Ks := [(1,[0,1,2,3,10])]
def De (O : Nat) : KC (Out × Qa) := QP Tryd.prog D false O 38 Tryd.f87.results.toList
def Qc9 (O : Nat) (c : Code) (k : KC (Out × Qa)) (t : Ts) (H : Qa) (d : Ds) : Option (Out × Qa) := xC Tryd.prog O true QeN E 38 c k t H d
def GA (O : Nat) (t0 t1 t2 t3 t10 : V) (H : Qa) : Option (Out × Qa) :=
Qt (fun t H d again => Qc9 O (cAt [1,0,0] FN) (Ql QeN (cAt [1,0,0] FN) again ((Qe 0 (De O)))) t H d) [(0,t0),(1,t1),(2,t2),(3,t3),(10,t10)] H []
theorem Qho (O : Nat) (t0 t1 t2 t3 t10 : V) (H : Qa) : GA O t0 t1 t2 t3 t10 H =
 bnd (Qb .lss 6 t10 t3) fun v0 =>
 cnd v0
 (bnd (Qb .add 6 t1 t10) fun v1 =>
 bnd (Qb .add 6 t2 t10) fun v2 =>
 bnd (Qb .add 6 t2 t10) fun v3 =>
 bnd (Qx 6 t0 v3) fun v4 =>
 bnd (Qc true 6 H v4) fun v5 =>
 bnd (Qb .add 6 t1 t10) fun v6 =>
 bnd (Qx 6 t0 v6) fun v7 =>
 bnd (Qc true 6 H v7) fun v8 =>
 bnd (Qx 6 t0 v1) fun v9 =>
 beff (Qs O 6 H v9 v5) fun v10 h11 =>
 bnd (Qx 6 t0 v2) fun v12 =>
 beff (Qs O 6 h11 v12 v8) fun v13 h14 =>
 bnd (Qb .add 6 t10 (.int .i64 1)) fun v15 =>
 GA O t0 t1 t2 t3 v15 h14)
 (rt false O (.tup []) H) := (Za (cAt [1,0,0] FN) ((Qe 0 (De O))) _ H []).trans (by kernel_rfl)
def Qhl (O : Nat) (t0 t1 t2 t3 t4 : V) (H : Qa) : Option (Out × Qa) := Qc9 O FN (De O) [(0,t0),(1,t1),(2,t2),(3,t3),(4,t4)] H []
theorem QlE (O : Nat) (t0 t1 t2 t3 t4 : V) (H : Qa) : Qhl O t0 t1 t2 t3 t4 H =
 GA O t0 t1 t2 t3 (.int .i64 0) H := by kernel_rfl
theorem Qmu (t0 t1 t2 t3 t4 : V) (H : Qa) : E NW [t0,t1,t2,t3,t4] H = Qhl H.length t0 t1 t2 t3 t4 H := (QR Tryd.func87 (by kernel_rfl) (by kernel_rfl) (by kernel_rfl)).trans (by kernel_rfl)
end
end Go.Proofs.YtdnmpaielmfiiaaDoor
end
