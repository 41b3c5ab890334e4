/- Fn2: a part of the proof that each law of this seat answers true at every input. No condition. -/
import Derived.Test.YtdnmpaielmfiiaaDoorHint
import Derived.KernelRfl
set_option linter.unusedVariables false
set_option linter.unusedSimpArgs false
set_option maxRecDepth 20000
section
namespace Go.Proofs.YtdnmpaielmfiiaaDoor
open Go Go.Ev
noncomputable section
def Xx : Code := QO Tryd.f34
def QpI : Ks := [(4,[0,1,4,5])]
def QcM (O : Nat) : KC (Out × Qa) := QP Tryd.prog D false O 60 Tryd.f34.results.toList
def QbJ (O : Nat) (c : Code) (k : KC (Out × Qa)) (t : Ts) (H : Qa) (d : Ds) : Option (Out × Qa) := xC Tryd.prog O false QpI E 60 c k t H d
def LL (O : Nat) (t0 t1 t4 t5 : V) (H : Qa) : Option (Out × Qa) :=
QbJ O (cAt [1,1,1] Xx) (QcM O) [(0,t0),(1,t1),(4,t4),(5,t5)] H []
theorem RG (O : Nat) (t0 t1 t4 t5 : V) (H : Qa) : LL O t0 t1 t4 t5 H =
 bnd (Qb .lss 6 t5 (.int .i64 4)) fun v6 =>
 cnd v6
 (bcall (E VB [t0,(.int .i64 3)] H) (fun v7 h8 =>
 bnd (Qb .add 6 (.int .i64 97) v7) fun v9 =>
 bcall (E VB [t0,(.int .i64 4)] h8) (fun v10 h11 =>
 bnd (Qb .quo 6 v10 (.int .i64 3)) fun v12 =>
 bnd (Qb .add 6 v9 v12) fun v13 =>
 bcall (E EG [v9,v13] h11) (fun v14 h15 =>
 beff (Qs O 6 h15 t4 v14) fun v16 h17 =>
 bnd (Qc true 6 h17 t4) fun v18 =>
 rt false O v18 h17)
 (fun v14 h15 => pn false O v14 h15))
 (fun v10 h11 => pn false O v10 h11))
 (fun v7 h8 => pn false O v7 h8))
 (bnd (Qb .eql 6 t5 (.int .i64 4)) fun v19 =>
 cnd v19
 (bcall (E VB [t0,(.int .i64 4)] H) (fun v20 h21 =>
 bnd (Qb .quo 6 v20 (.int .i64 3)) fun v22 =>
 bnd (Zj [(.int .i64 0),(.int .u64 0),(.int .u64 0),(.int .u64 0),(.int .u64 0),.nils] [(0,1),(1,4),(5,1)] [(0,v22)]) fun v23 =>
 beff (Qs O 6 h21 t4 v23) fun v24 h25 =>
 bnd (Qc true 6 h25 t4) fun v26 =>
 rt false O v26 h25)
 (fun v20 h21 => pn false O v20 h21))
 (bnd (Qb .lss 6 t5 (.int .i64 7)) fun v27 =>
 cnd v27
 (bnd (Qb .sub 6 t1 (.int .i64 1)) fun v28 =>
 bcall (E NU [t0,v28] H) (fun v29 h30 =>
 bcall (E WI [v29] h30) (fun v31 h32 =>
 beff (Qs O 6 h32 t4 v31) fun v33 h34 =>
 bnd (Qc true 6 h34 t4) fun v35 =>
 rt false O v35 h34)
 (fun v31 h32 => pn false O v31 h32))
 (fun v29 h30 => pn false O v29 h30))
 (bnd (Qb .lss 6 t5 (.int .i64 9)) fun v36 =>
 cnd v36
 (bcall (E VB [t0,(.int .i64 3)] H) (fun v37 h38 =>
 bnd (Qb .add 6 (.int .i64 1) v37) fun v39 =>
 bnd (Qb .sub 6 t1 (.int .i64 1)) fun v40 =>
 bcall (E FJ [t0,v39,v40] h38) (fun v41 h42 =>
 bcall (E Vi [v41] h42) (fun v43 h44 =>
 beff (Qs O 6 h44 t4 v43) fun v45 h46 =>
 bnd (Qc true 6 h46 t4) fun v47 =>
 rt false O v47 h46)
 (fun v43 h44 => pn false O v43 h44))
 (fun v41 h42 => pn false O v41 h42))
 (fun v37 h38 => pn false O v37 h38))
 (bcall (E VB [t0,(.int .i64 3)] H) (fun v48 h49 =>
 bnd (Qb .add 6 (.int .i64 1) v48) fun v50 =>
 bnd (Qb .sub 6 t1 (.int .i64 1)) fun v51 =>
 bcall (E FJ [t0,v50,v51] h49) (fun v52 h53 =>
 bcall (E V9 [v52] h53) (fun v54 h55 =>
 beff (Qs O 6 h55 t4 v54) fun v56 h57 =>
 bnd (Qc true 6 h57 t4) fun v58 =>
 rt false O v58 h57)
 (fun v54 h55 => pn false O v54 h55))
 (fun v52 h53 => pn false O v52 h53))
 (fun v48 h49 => pn false O v48 h49))))) := by kernel_rfl
def QdB (O : Nat) (t0 t1 : V) (H : Qa) : Option (Out × Qa) := QbJ O Xx (QcM O) [(0,t0),(1,t1)] H []
theorem Lq (O : Nat) (t0 t1 : V) (H : Qa) : QdB O t0 t1 H =
 beff (QD H (.agg [(.int .i64 0),(.int .u64 0),(.int .u64 0),(.int .u64 0),(.int .u64 0),.nils])) fun v0 h1 =>
 bcall (E VB [t0,(.int .i64 11)] h1) (fun v2 h3 =>
 bnd (Qb .lss 6 t1 (.int .i64 1)) fun v4 =>
 cnd v4
 (bnd (Qb .rem 6 v2 (.int .i64 5)) fun v5 =>
 LL O t0 t1 v0 v5 h3)
 (LL O t0 t1 v0 v2 h3))
 (fun v2 h3 => pn false O v2 h3) := by kernel_rfl
theorem Na (t0 t1 : V) (H : Qa) : E NU [t0,t1] H = QdB H.length t0 t1 H := (QR Tryd.func34 (by kernel_rfl) (by kernel_rfl) (by kernel_rfl)).trans (by kernel_rfl)
def VN : Code := QO Tryd.f35
def FL : Ks := [(3,[0,1,5,6])]
def Mi (O : Nat) : KC (Out × Qa) := QP Tryd.prog D false O 31 Tryd.f35.results.toList
def FX (O : Nat) (c : Code) (k : KC (Out × Qa)) (t : Ts) (H : Qa) (d : Ds) : Option (Out × Qa) := xC Tryd.prog O false FL E 31 c k t H d
def Lp (O : Nat) (t0 t1 t5 t6 : V) (H : Qa) : Option (Out × Qa) :=
Qt (fun t H d again => FX O (cAt [1,1,0,1,0,0] VN) (Ql FL (cAt [1,1,0,1,0,0] VN) again ((Qe 0 ((Qg (fun _ t => FX O (cAt [1,1,1] VN) (Mi O) (Qf FL (cAt [1,1,1] VN) t)) (Mi O)))))) t H d) [(0,t0),(1,t1),(5,t5),(6,t6)] H []
theorem Aa (O : Nat) (t0 t1 t5 t6 : V) (H : Qa) : Lp O t0 t1 t5 t6 H =
 bnd (QM t0) fun v0 =>
 bnd (Qb .lss 6 t6 v0) fun v1 =>
 bnd (gua v1 true (QL t6) (some (.tup []))) fun v2 =>
 bnd (gua v1 true (Qb .lss 6 v2 (.int .i64 14)) (some (.tup []))) fun v3 =>
 bnd (QY v1 v3 (.bool false)) fun v4 =>
 cnd v4
 (bnd (Qx 1 t0 t6) fun v5 =>
 bnd (Qc false 1 H v5) fun v6 =>
 bnd (Yc .i64 v6) fun v7 =>
 bnd (QM t1) fun v8 =>
 bnd (Qb .rem 6 v7 v8) fun v9 =>
 bnd (Qx 1 t1 v9) fun v10 =>
 bnd (Qc false 1 H v10) fun v11 =>
 bnd (Qb .add 6 t5 v11) fun v12 =>
 bnd (Qb .add 6 t6 (.int .i64 1)) fun v13 =>
 Lp O t0 t1 v12 v13 H)
 (rt false O t5 H) := (Za (cAt [1,1,0,1,0,0] VN) ((Qe 0 ((Qg (fun _ t => FX O (cAt [1,1,1] VN) (Mi O) (Qf FL (cAt [1,1,1] VN) t)) (Mi O))))) _ H []).trans (by kernel_rfl)
def QaL (O : Nat) (t0 t1 : V) (H : Qa) : Option (Out × Qa) := FX O VN (Mi O) [(0,t0),(1,t1)] H []
theorem QjO (O : Nat) (t0 t1 : V) (H : Qa) : QaL O t0 t1 H =
 Lp O t0 t1 (.str []) (.int .i64 0) H := by kernel_rfl
theorem Qmg (t0 t1 : V) (H : Qa) : E DY [t0,t1] H = QaL H.length t0 t1 H := (QR Tryd.func35 (by kernel_rfl) (by kernel_rfl) (by kernel_rfl)).trans (by kernel_rfl)
def YU : Code := QO Tryd.f37
def V3 : Ks := [(3,[0,1,5,6]),(4,[0,1,5,6])]
def Wp (O : Nat) : KC (Out × Qa) := QP Tryd.prog D false O 35 Tryd.f37.results.toList
def VP (O : Nat) (c : Code) (k : KC (Out × Qa)) (t : Ts) (H : Qa) (d : Ds) : Option (Out × Qa) := xC Tryd.prog O false V3 E 35 c k t H d
def NC (O : Nat) (t0 t1 t5 t6 : V) (H : Qa) : Option (Out × Qa) :=
Qt (fun t H d again => VP O (cAt [1,1,0,1,0,0] YU) (Ql V3 (cAt [1,1,0,1,0,0] YU) again ((Qe 0 ((Qg (fun _ t => VP O (cAt [1,1,1] YU) (Wp O) (Qf V3 (cAt [1,1,1] YU) t)) (Wp O)))))) t H d) [(0,t0),(1,t1),(5,t5),(6,t6)] H []
def FZ (O : Nat) (t0 t1 t5 t6 : V) (H : Qa) : Option (Out × Qa) :=
VP O (cAt [1,1,0,1,0,0,1,1] YU) ((Ql V3 (cAt [1,1,0,1,0,0] YU) (Qt (fun t H d again => VP O (cAt [1,1,0,1,0,0] YU) (Ql V3 (cAt [1,1,0,1,0,0] YU) again ((Qe 0 ((Qg (fun _ t => VP O (cAt [1,1,1] YU) (Wp O) (Qf V3 (cAt [1,1,1] YU) t)) (Wp O)))))) t H d)) ((Qe 0 ((Qg (fun _ t => VP O (cAt [1,1,1] YU) (Wp O) (Qf V3 (cAt [1,1,1] YU) t)) (Wp O))))))) [(0,t0),(1,t1),(5,t5),(6,t6)] H []
theorem QpJ (O : Nat) (t0 t1 t5 t6 : V) (H : Qa) : FZ O t0 t1 t5 t6 H =
 bnd (Qb .add 6 t6 (.int .i64 1)) fun v11 =>
 NC O t0 t1 t5 v11 H := by kernel_rfl
theorem Qj9 (O : Nat) (t0 t1 t5 t6 : V) (H : Qa) : NC O t0 t1 t5 t6 H =
 bnd (QM t0) fun v0 =>
 bnd (Qb .lss 6 t6 v0) fun v1 =>
 cnd v1
 (bnd (Qx 6 t0 t6) fun v2 =>
 bnd (Qq v2 0) fun v3 =>
 bnd (Qc false 1 H v3) fun v4 =>
 bnd (Qb .eql 6 v4 t1) fun v5 =>
 cnd v5
 (bnd (Qx 6 t0 t6) fun v6 =>
 bnd (Qq v6 5) fun v7 =>
 bnd (Qc false 1 H v7) fun v8 =>
 beff (Z1 O 6 64 true t5 v8 H) fun v9 h10 =>
 FZ O t0 t1 v9 t6 h10)
 (bnd (Qx 6 t0 t6) fun v12 =>
 bnd (Qc true 6 H v12) fun v13 =>
 bnd (Zq 6 1 (.agg [(.int .i64 0),(.int .u64 0),(.int .u64 0),(.int .u64 0),(.int .u64 0),(.vs [])]) [(0,v13)]) fun v14 =>
 beff (Z1 O 6 64 true t5 v14 H) fun v15 h16 =>
 FZ O t0 t1 v15 t6 h16))
 (rt false O t5 H) := (Za (cAt [1,1,0,1,0,0] YU) ((Qe 0 ((Qg (fun _ t => VP O (cAt [1,1,1] YU) (Wp O) (Qf V3 (cAt [1,1,1] YU) t)) (Wp O))))) _ H []).trans (by kernel_rfl)
def QeI (O : Nat) (t0 t1 : V) (H : Qa) : Option (Out × Qa) := VP O YU (Wp O) [(0,t0),(1,t1)] H []
theorem Qqd (O : Nat) (t0 t1 : V) (H : Qa) : QeI O t0 t1 H =
 NC O t0 t1 .nils (.int .i64 0) H := by kernel_rfl
theorem QqF (t0 t1 : V) (H : Qa) : E Ge [t0,t1] H = QeI H.length t0 t1 H := (QR Tryd.func37 (by kernel_rfl) (by kernel_rfl) (by kernel_rfl)).trans (by kernel_rfl)
def Ql1 : Code := QO Tryd.f38
def QoO : Ks := []
def Qif (O : Nat) : KC (Out × Qa) := QP Tryd.prog D false O 14 Tryd.f38.results.toList
def Qli (O : Nat) (c : Code) (k : KC (Out × Qa)) (t : Ts) (H : Qa) (d : Ds) : Option (Out × Qa) := xC Tryd.prog O false QoO E 14 c k t H d
def Tx (O : Nat) (t0 t1 : V) (H : Qa) : Option (Out × Qa) := Qli O Ql1 (Qif O) [(0,t0),(1,t1)] H []
theorem QnL (O : Nat) (t0 t1 : V) (H : Qa) : Tx O t0 t1 H =
 beff (QD H (.agg [(.int .i64 0),(.int .u64 0),(.int .u64 0),(.int .u64 0),(.int .u64 0),.nils])) fun v0 h1 =>
 bnd (QM t0) fun v2 =>
 bnd (Qb .eql 6 v2 (.int .i64 1)) fun v3 =>
 cnd v3
 (bnd (Qx 6 t0 (.int .i64 0)) fun v4 =>
 bnd (Qc true 6 h1 v4) fun v5 =>
 beff (Qs O 6 h1 v0 v5) fun v6 h7 =>
 bnd (Qc true 6 h7 v0) fun v8 =>
 rt false O v8 h7)
 (bnd (Zj [(.int .i64 0),(.int .u64 0),(.int .u64 0),(.int .u64 0),(.int .u64 0),.nils] [(0,1),(1,4),(5,1)] [(0,t1),(2,t0)]) fun v9 =>
 beff (Qs O 6 h1 v0 v9) fun v10 h11 =>
 bnd (Qc true 6 h11 v0) fun v12 =>
 rt false O v12 h11) := by kernel_rfl
theorem QoL (t0 t1 : V) (H : Qa) : E L2 [t0,t1] H = Tx H.length t0 t1 H := (QR Tryd.func38 (by kernel_rfl) (by kernel_rfl) (by kernel_rfl)).trans (by kernel_rfl)
def Qqk : Code := QO Tryd.f39
def Qmf : Ks := []
def Qlj (O : Nat) : KC (Out × Qa) := QP Tryd.prog D false O 17 Tryd.f39.results.toList
def Ql6 (O : Nat) (c : Code) (k : KC (Out × Qa)) (t : Ts) (H : Qa) (d : Ds) : Option (Out × Qa) := xC Tryd.prog O false Qmf E 17 c k t H d
def TH (O : Nat) (t0 t1 : V) (H : Qa) : Option (Out × Qa) := Ql6 O Qqk (Qlj O) [(0,t0),(1,t1)] H []
theorem Qq3 (O : Nat) (t0 t1 : V) (H : Qa) : TH O t0 t1 H =
 beff (QD H t0) fun v0 h1 =>
 beff (QD h1 (.agg [(.int .u64 0),(.int .u64 0),(.int .u64 0),(.int .u64 0)])) fun v2 h3 =>
 bnd (Qb .quo 6 t1 (.int .i64 64)) fun v4 =>
 bnd (Qb .quo 6 t1 (.int .i64 64)) fun v5 =>
 bnd (Wl 4 1 v0 v5) fun v6 =>
 bnd (Qc false 1 h3 v6) fun v7 =>
 bnd (Qb .rem 6 t1 (.int .i64 64)) fun v8 =>
 bnd (Qb .shl 6 (.int .u64 1) v8) fun v9 =>
 bnd (Qb .or 6 v7 v9) fun v10 =>
 bnd (Wl 4 1 v0 v4) fun v11 =>
 beff (Qs O 1 h3 v11 v10) fun v12 h13 =>
 bnd (Qc true 4 h13 v0) fun v14 =>
 beff (Qs O 4 h13 v2 v14) fun v15 h16 =>
 bnd (Qc true 4 h16 v2) fun v17 =>
 rt false O v17 h16 := by kernel_rfl
theorem QjF (t0 t1 : V) (H : Qa) : E Eg [t0,t1] H = TH H.length t0 t1 H := (QR Tryd.func39 (by kernel_rfl) (by kernel_rfl) (by kernel_rfl)).trans (by kernel_rfl)
def YT : Code := QO Tryd.f40
def W8 : Ks := [(3,[1,3,4]),(4,[1,3,4])]
def WE (O : Nat) : KC (Out × Qa) := QP Tryd.prog D false O 15 Tryd.f40.results.toList
def Vz (O : Nat) (c : Code) (k : KC (Out × Qa)) (t : Ts) (H : Qa) (d : Ds) : Option (Out × Qa) := xC Tryd.prog O false W8 E 15 c k t H d
def Np (O : Nat) (t1 t3 t4 : V) (H : Qa) : Option (Out × Qa) :=
Qt (fun t H d again => Vz O (cAt [1,1,0,1,0,0] YT) (Ql W8 (cAt [1,1,0,1,0,0] YT) again ((Qe 0 ((Qg (fun _ t => Vz O (cAt [1,1,1] YT) (WE O) (Qf W8 (cAt [1,1,1] YT) t)) (WE O)))))) t H d) [(1,t1),(3,t3),(4,t4)] H []
def Pk (O : Nat) (t1 t3 t4 : V) (H : Qa) : Option (Out × Qa) :=
Vz O (cAt [1,1,0,1,0,0,1,1] YT) ((Ql W8 (cAt [1,1,0,1,0,0] YT) (Qt (fun t H d again => Vz O (cAt [1,1,0,1,0,0] YT) (Ql W8 (cAt [1,1,0,1,0,0] YT) again ((Qe 0 ((Qg (fun _ t => Vz O (cAt [1,1,1] YT) (WE O) (Qf W8 (cAt [1,1,1] YT) t)) (WE O)))))) t H d)) ((Qe 0 ((Qg (fun _ t => Vz O (cAt [1,1,1] YT) (WE O) (Qf W8 (cAt [1,1,1] YT) t)) (WE O))))))) [(1,t1),(3,t3),(4,t4)] H []
theorem Qp2 (O : Nat) (t1 t3 t4 : V) (H : Qa) : Pk O t1 t3 t4 H =
 bnd (Qb .add 6 t4 (.int .i64 1)) fun v7 =>
 Np O t1 t3 v7 H := by kernel_rfl
theorem Qma (O : Nat) (t1 t3 t4 : V) (H : Qa) : Np O t1 t3 t4 H =
 bnd (Qb .lss 6 t4 (.int .i64 256)) fun v2 =>
 cnd v2
 (bnd (Qc true 4 H t1) fun v3 =>
 bcall (E Vy [v3,t4] H) (fun v4 h5 =>
 cnd v4
 (bnd (Qb .add 6 t3 (.int .i64 1)) fun v6 =>
 Pk O t1 v6 t4 h5)
 (Pk O t1 t3 t4 h5))
 (fun v4 h5 => pn false O v4 h5))
 (rt false O t3 H) := (Za (cAt [1,1,0,1,0,0] YT) ((Qe 0 ((Qg (fun _ t => Vz O (cAt [1,1,1] YT) (WE O) (Qf W8 (cAt [1,1,1] YT) t)) (WE O))))) _ H []).trans (by kernel_rfl)
def QgO (O : Nat) (t0 : V) (H : Qa) : Option (Out × Qa) := Vz O YT (WE O) [(0,t0)] H []
theorem QhY (O : Nat) (t0 : V) (H : Qa) : QgO O t0 H =
 beff (QD H t0) fun v0 h1 =>
 Np O v0 (.int .i64 0) (.int .i64 0) h1 := by kernel_rfl
theorem Qjq (t0 : V) (H : Qa) : E US [t0] H = QgO H.length t0 H := (QR Tryd.func40 (by kernel_rfl) (by kernel_rfl) (by kernel_rfl)).trans (by kernel_rfl)
def Qol : Code := QO Tryd.f41
def Qkk : Ks := []
def QqA (O : Nat) : KC (Out × Qa) := QP Tryd.prog D false O 8 Tryd.f41.results.toList
def QnC (O : Nat) (c : Code) (k : KC (Out × Qa)) (t : Ts) (H : Qa) (d : Ds) : Option (Out × Qa) := xC Tryd.prog O false Qkk E 8 c k t H d
def TB (O : Nat) (t0 t1 : V) (H : Qa) : Option (Out × Qa) := QnC O Qol (QqA O) [(0,t0),(1,t1)] H []
theorem Qok (O : Nat) (t0 t1 : V) (H : Qa) : TB O t0 t1 H =
 beff (QD H t0) fun v0 h1 =>
 beff (QD h1 t1) fun v2 h3 =>
 beff (QD h3 (.agg [(.int .u64 0),(.int .u64 0),(.int .u64 0),(.int .u64 0)])) fun v4 h5 =>
 bnd (Qc true 4 h5 v0) fun v6 =>
 bnd (Qc true 4 h5 v2) fun v7 =>
 bcall (E Cv [v6,v7,(.bool false),(.bool true),(.bool true),(.bool true)] h5) (fun v8 h9 =>
 beff (Qs O 4 h9 v4 v8) fun v10 h11 =>
 bnd (Qc true 4 h11 v4) fun v12 =>
 rt false O v12 h11)
 (fun v8 h9 => pn false O v8 h9) := by kernel_rfl
theorem QhZ (t0 t1 : V) (H : Qa) : E Ez [t0,t1] H = TB H.length t0 t1 H := (QR Tryd.func41 (by kernel_rfl) (by kernel_rfl) (by kernel_rfl)).trans (by kernel_rfl)
def Qny : Code := QO Tryd.f42
def Qmq : Ks := []
def Qjv (O : Nat) : KC (Out × Qa) := QP Tryd.prog D false O 9 Tryd.f42.results.toList
def Qpz (O : Nat) (c : Code) (k : KC (Out × Qa)) (t : Ts) (H : Qa) (d : Ds) : Option (Out × Qa) := xC Tryd.prog O false Qmq E 9 c k t H d
def QgL (O : Nat) (t0 : V) (H : Qa) : Option (Out × Qa) := Qpz O Qny (Qjv O) [(0,t0)] H []
theorem Qmi (O : Nat) (t0 : V) (H : Qa) : QgL O t0 H =
 beff (QD H t0) fun v0 h1 =>
 beff (QD h1 (.agg [(.int .i64 0),(.int .u64 0),(.int .u64 0),(.int .u64 0),(.int .u64 0),.nils])) fun v2 h3 =>
 bnd (Qc true 4 h3 v0) fun v4 =>
 bcall (E US [v4] h3) (fun v5 h6 =>
 bnd (Qb .eql 6 v5 (.int .i64 0)) fun v7 =>
 cnd v7
 (bnd (Zj [(.int .i64 0),(.int .u64 0),(.int .u64 0),(.int .u64 0),(.int .u64 0),.nils] [(0,1),(1,4),(5,1)] []) fun v8 =>
 beff (Qs O 6 h6 v2 v8) fun v9 h10 =>
 bnd (Qc true 6 h10 v2) fun v11 =>
 rt false O v11 h10)
 (bnd (Qc true 4 h6 v0) fun v12 =>
 bnd (Zj [(.int .i64 0),(.int .u64 0),(.int .u64 0),(.int .u64 0),(.int .u64 0),.nils] [(0,1),(1,4),(5,1)] [(0,(.int .i64 2)),(1,v12)]) fun v13 =>
 beff (Qs O 6 h6 v2 v13) fun v14 h15 =>
 bnd (Qc true 6 h15 v2) fun v16 =>
 rt false O v16 h15))
 (fun v5 h6 => pn false O v5 h6) := by kernel_rfl
theorem QnH (t0 : V) (H : Qa) : E Dw [t0] H = QgL H.length t0 H := (QR Tryd.func42 (by kernel_rfl) (by kernel_rfl) (by kernel_rfl)).trans (by kernel_rfl)
def Q0 : Code := QO Tryd.f43
def ZW : Ks := [(5,[0,3,5,6,7,8]),(10,[0,3,5,6,7,8,9]),(13,[0,3,5,6,7,8]),(6,[0,3,5,6,7,8]),(16,[5])]
def ZV (O : Nat) : KC (Out × Qa) := QP Tryd.prog D false O 51 Tryd.f43.results.toList
def Z4 (O : Nat) (c : Code) (k : KC (Out × Qa)) (t : Ts) (H : Qa) (d : Ds) : Option (Out × Qa) := xC Tryd.prog O false ZW E 51 c k t H d
def NV (O : Nat) (t0 t3 t5 t6 t7 t8 : V) (H : Qa) : Option (Out × Qa) :=
Qt (fun t H d again => Z4 O (cAt [1,1,1,1,0,1,0,0] Q0) (Ql ZW (cAt [1,1,1,1,0,1,0,0] Q0) again ((Qe 0 ((Qg (fun _ t => Z4 O (cAt [1,1,1,1,1] Q0) (ZV O) (Qf ZW (cAt [1,1,1,1,1] Q0) t)) (ZV O)))))) t H d) [(0,t0),(3,t3),(5,t5),(6,t6),(7,t7),(8,t8)] H []
def QbS (O : Nat) (t0 t3 t5 t6 t7 t8 : V) (H : Qa) : Option (Out × Qa) :=
Z4 O (cAt [1,1,1,1,0,1,0,0,1,1] Q0) ((Ql ZW (cAt [1,1,1,1,0,1,0,0] Q0) (Qt (fun t H d again => Z4 O (cAt [1,1,1,1,0,1,0,0] Q0) (Ql ZW (cAt [1,1,1,1,0,1,0,0] Q0) again ((Qe 0 ((Qg (fun _ t => Z4 O (cAt [1,1,1,1,1] Q0) (ZV O) (Qf ZW (cAt [1,1,1,1,1] Q0) t)) (ZV O)))))) t H d)) ((Qe 0 ((Qg (fun _ t => Z4 O (cAt [1,1,1,1,1] Q0) (ZV O) (Qf ZW (cAt [1,1,1,1,1] Q0) t)) (ZV O))))))) [(0,t0),(3,t3),(5,t5),(6,t6),(7,t7),(8,t8)] H []
theorem E9 (O : Nat) (t0 t3 t5 t6 t7 t8 : V) (H : Qa) : QbS O t0 t3 t5 t6 t7 t8 H =
 bnd (Qb .add 6 t8 (.int .i64 1)) fun v25 =>
 NV O t0 t3 t5 t6 t7 v25 H := by kernel_rfl
def RB (O : Nat) (t0 t3 t5 t6 t7 t8 : V) (H : Qa) : Option (Out × Qa) :=
Z4 O (cAt [1,1,1,1,0,1,0,0,1,0,0,1,1,1] Q0) ((Qe 1 ((Qg (fun _ t => Z4 O (cAt [1,1,1,1,0,1,0,0,1,1] Q0) ((Ql ZW (cAt [1,1,1,1,0,1,0,0] Q0) (Qt (fun t H d again => Z4 O (cAt [1,1,1,1,0,1,0,0] Q0) (Ql ZW (cAt [1,1,1,1,0,1,0,0] Q0) again ((Qe 0 ((Qg (fun _ t => Z4 O (cAt [1,1,1,1,1] Q0) (ZV O) (Qf ZW (cAt [1,1,1,1,1] Q0) t)) (ZV O)))))) t H d)) ((Qe 0 ((Qg (fun _ t => Z4 O (cAt [1,1,1,1,1] Q0) (ZV O) (Qf ZW (cAt [1,1,1,1,1] Q0) t)) (ZV O))))))) (Qf ZW (cAt [1,1,1,1,0,1,0,0,1,1] Q0) t)) ((Ql ZW (cAt [1,1,1,1,0,1,0,0] Q0) (Qt (fun t H d again => Z4 O (cAt [1,1,1,1,0,1,0,0] Q0) (Ql ZW (cAt [1,1,1,1,0,1,0,0] Q0) again ((Qe 0 ((Qg (fun _ t => Z4 O (cAt [1,1,1,1,1] Q0) (ZV O) (Qf ZW (cAt [1,1,1,1,1] Q0) t)) (ZV O)))))) t H d)) ((Qe 0 ((Qg (fun _ t => Z4 O (cAt [1,1,1,1,1] Q0) (ZV O) (Qf ZW (cAt [1,1,1,1,1] Q0) t)) (ZV O))))))))))) [(0,t0),(3,t3),(5,t5),(6,t6),(7,t7),(8,t8)] H []
theorem Ab (O : Nat) (t0 t3 t5 t6 t7 t8 : V) (H : Qa) : RB O t0 t3 t5 t6 t7 t8 H =
 bnd (Qx 6 t0 t8) fun v20 =>
 bnd (Qc true 6 H v20) fun v21 =>
 bnd (Zq 6 1 (.agg [(.int .i64 0),(.int .u64 0),(.int .u64 0),(.int .u64 0),(.int .u64 0),(.vs [])]) [(0,v21)]) fun v22 =>
 beff (Z1 O 6 64 true t5 v22 H) fun v23 h24 =>
 QbS O t0 t3 v23 t6 t7 t8 h24 := by kernel_rfl
def PN (O : Nat) (t0 t3 t5 t6 t7 t8 t9 : V) (H : Qa) : Option (Out × Qa) :=
Z4 O (cAt [1,1,1,1,0,1,0,0,1,0,0,1,1] Q0) ((Qe 1 ((Qg (fun _ t => Z4 O (cAt [1,1,1,1,0,1,0,0,1,1] Q0) ((Ql ZW (cAt [1,1,1,1,0,1,0,0] Q0) (Qt (fun t H d again => Z4 O (cAt [1,1,1,1,0,1,0,0] Q0) (Ql ZW (cAt [1,1,1,1,0,1,0,0] Q0) again ((Qe 0 ((Qg (fun _ t => Z4 O (cAt [1,1,1,1,1] Q0) (ZV O) (Qf ZW (cAt [1,1,1,1,1] Q0) t)) (ZV O)))))) t H d)) ((Qe 0 ((Qg (fun _ t => Z4 O (cAt [1,1,1,1,1] Q0) (ZV O) (Qf ZW (cAt [1,1,1,1,1] Q0) t)) (ZV O))))))) (Qf ZW (cAt [1,1,1,1,0,1,0,0,1,1] Q0) t)) ((Ql ZW (cAt [1,1,1,1,0,1,0,0] Q0) (Qt (fun t H d again => Z4 O (cAt [1,1,1,1,0,1,0,0] Q0) (Ql ZW (cAt [1,1,1,1,0,1,0,0] Q0) again ((Qe 0 ((Qg (fun _ t => Z4 O (cAt [1,1,1,1,1] Q0) (ZV O) (Qf ZW (cAt [1,1,1,1,1] Q0) t)) (ZV O)))))) t H d)) ((Qe 0 ((Qg (fun _ t => Z4 O (cAt [1,1,1,1,1] Q0) (ZV O) (Qf ZW (cAt [1,1,1,1,1] Q0) t)) (ZV O))))))))))) [(0,t0),(3,t3),(5,t5),(6,t6),(7,t7),(8,t8),(9,t9)] H []
theorem LC (O : Nat) (t0 t3 t5 t6 t7 t8 t9 : V) (H : Qa) : PN O t0 t3 t5 t6 t7 t8 t9 H =
 bnd (Qb .gtr 6 t9 t6) fun v12 =>
 bnd (gua v12 true (QL t7) (some (.tup []))) fun v13 =>
 bnd (gua v12 true (oUn .not v13) (some (.tup []))) fun v14 =>
 bnd (QY v12 v14 (.bool false)) fun v15 =>
 cnd v15
 (bnd (Qc true 6 H t3) fun v16 =>
 bnd (Zq 6 1 (.agg [(.int .i64 0),(.int .u64 0),(.int .u64 0),(.int .u64 0),(.int .u64 0),(.vs [])]) [(0,v16)]) fun v17 =>
 beff (Z1 O 6 64 true t5 v17 H) fun v18 h19 =>
 RB O t0 t3 v18 t6 (.bool true) t8 h19)
 (RB O t0 t3 t5 t6 t7 t8 H) := by kernel_rfl
def Ac (O : Nat) (t5 : V) (H : Qa) : Option (Out × Qa) :=
Z4 O (cAt [1,1,1,1,1,1] Q0) (ZV O) [(5,t5)] H []
theorem QaD (O : Nat) (t5 : V) (H : Qa) : Ac O t5 H =
 rt false O t5 H := by kernel_rfl
theorem Bj (O : Nat) (t0 t3 t5 t6 t7 t8 : V) (H : Qa) : NV O t0 t3 t5 t6 t7 t8 H =
 bnd (QM t0) fun v5 =>
 bnd (Qb .lss 6 t8 v5) fun v6 =>
 cnd v6
 (bnd (Qx 6 t0 t8) fun v7 =>
 bnd (Qc true 6 H v7) fun v8 =>
 bcall (E K1 [v8] H) (fun v9 h10 =>
 bnd (Qb .eql 6 v9 t6) fun v11 =>
 cnd v11
 (PN O t0 t3 t5 t6 (.bool true) t8 v9 h10)
 (PN O t0 t3 t5 t6 t7 t8 v9 h10))
 (fun v9 h10 => pn false O v9 h10))
 (bnd (oUn .not t7) fun v26 =>
 cnd v26
 (bnd (Qc true 6 H t3) fun v27 =>
 bnd (Zq 6 1 (.agg [(.int .i64 0),(.int .u64 0),(.int .u64 0),(.int .u64 0),(.int .u64 0),(.vs [])]) [(0,v27)]) fun v28 =>
 beff (Z1 O 6 64 true t5 v28 H) fun v29 h30 =>
 Ac O v29 h30)
 (Ac O t5 H)) := (Za (cAt [1,1,1,1,0,1,0,0] Q0) ((Qe 0 ((Qg (fun _ t => Z4 O (cAt [1,1,1,1,1] Q0) (ZV O) (Qf ZW (cAt [1,1,1,1,1] Q0) t)) (ZV O))))) _ H []).trans (by kernel_rfl)
def QaS (O : Nat) (t0 t1 : V) (H : Qa) : Option (Out × Qa) := Z4 O Q0 (ZV O) [(0,t0),(1,t1)] H []
theorem QiO (O : Nat) (t0 t1 : V) (H : Qa) : QaS O t0 t1 H =
 beff (QD H t1) fun v0 h1 =>
 bnd (Qc true 6 h1 v0) fun v2 =>
 bcall (E K1 [v2] h1) (fun v3 h4 =>
 NV O t0 v0 .nils v3 (.bool false) (.int .i64 0) h4)
 (fun v3 h4 => pn false O v3 h4) := by kernel_rfl
theorem QjB (t0 t1 : V) (H : Qa) : E E6 [t0,t1] H = QaS H.length t0 t1 H := (QR Tryd.func43 (by kernel_rfl) (by kernel_rfl) (by kernel_rfl)).trans (by kernel_rfl)
def WK : Code := QO Tryd.f44
def Fj : Ks := [(2,[0,1,7,8])]
def Mt (O : Nat) : KC (Out × Qa) := QP Tryd.prog D false O 19 Tryd.f44.results.toList
def Gs (O : Nat) (c : Code) (k : KC (Out × Qa)) (t : Ts) (H : Qa) (d : Ds) : Option (Out × Qa) := xC Tryd.prog O true Fj E 19 c k t H d
def LD (O : Nat) (t0 t1 t7 t8 : V) (H : Qa) : Option (Out × Qa) :=
Qt (fun t H d again => Gs O (cAt [1,0,1,0,0] WK) (Ql Fj (cAt [1,0,1,0,0] WK) again ((Qe 0 ((Qg (fun _ t => Gs O (cAt [1,1] WK) (Mt O) (Qf Fj (cAt [1,1] WK) t)) (Mt O)))))) t H d) [(0,t0),(1,t1),(7,t7),(8,t8)] H []
theorem D9 (O : Nat) (t0 t1 t7 t8 : V) (H : Qa) : LD O t0 t1 t7 t8 H =
 bnd (Qb .lss 6 t8 t7) fun v1 =>
 cnd v1
 (bnd (Qx 6 t0 t8) fun v2 =>
 bnd (Qc true 6 H v2) fun v3 =>
 bcall (J6 E t1 [v3] H) (fun v4 h5 =>
 cnd v4
 (rt false O t8 h5)
 (bnd (Qb .add 6 t8 (.int .i64 1)) fun v6 =>
 LD O t0 t1 t7 v6 h5))
 (fun v4 h5 => pn false O v4 h5))
 (rt false O (.int .i64 (-1)) H) := (Za (cAt [1,0,1,0,0] WK) ((Qe 0 ((Qg (fun _ t => Gs O (cAt [1,1] WK) (Mt O) (Qf Fj (cAt [1,1] WK) t)) (Mt O))))) _ H []).trans (by kernel_rfl)
def QsI (O : Nat) (t0 t1 : V) (H : Qa) : Option (Out × Qa) := Gs O WK (Mt O) [(0,t0),(1,t1)] H []
theorem Ql7 (O : Nat) (t0 t1 : V) (H : Qa) : QsI O t0 t1 H =
 bnd (QM t0) fun v0 =>
 LD O t0 t1 v0 (.int .i64 0) H := by kernel_rfl
theorem QnR (t0 t1 : V) (H : Qa) : E Ef [t0,t1] H = QsI H.length t0 t1 H := (QR Tryd.func44 (by kernel_rfl) (by kernel_rfl) (by kernel_rfl)).trans (by kernel_rfl)
def YJ : Code := QO Tryd.f47
def VY : Ks := [(4,[0,2,3,10,11,12]),(8,[0,2,3,10,11,12]),(12,[0,2])]
def KF (O : Nat) : KC (Out × Qa) := QP Tryd.prog D false O 40 Tryd.f47.results.toList
def Wm (O : Nat) (c : Code) (k : KC (Out × Qa)) (t : Ts) (H : Qa) (d : Ds) : Option (Out × Qa) := xC Tryd.prog O false VY E 40 c k t H d
def Ux (O : Nat) (t0 t2 t3 t10 t11 t12 : V) (H : Qa) : Option (Out × Qa) :=
Qt (fun t H d again => Wm O (cAt [1,1,1,0,1,0,0] YJ) (Ql VY (cAt [1,1,1,0,1,0,0] YJ) again ((Qe 0 ((Qg (fun _ t => Wm O (cAt [1,1,1,1] YJ) (KF O) (Qf VY (cAt [1,1,1,1] YJ) t)) (KF O)))))) t H d) [(0,t0),(2,t2),(3,t3),(10,t10),(11,t11),(12,t12)] H []
def PI (O : Nat) (t0 t2 t3 t10 t11 t12 : V) (H : Qa) : Option (Out × Qa) :=
Wm O (cAt [1,1,1,0,1,0,0,1,1,1] YJ) ((Ql VY (cAt [1,1,1,0,1,0,0] YJ) (Qt (fun t H d again => Wm O (cAt [1,1,1,0,1,0,0] YJ) (Ql VY (cAt [1,1,1,0,1,0,0] YJ) again ((Qe 0 ((Qg (fun _ t => Wm O (cAt [1,1,1,1] YJ) (KF O) (Qf VY (cAt [1,1,1,1] YJ) t)) (KF O)))))) t H d)) ((Qe 0 ((Qg (fun _ t => Wm O (cAt [1,1,1,1] YJ) (KF O) (Qf VY (cAt [1,1,1,1] YJ) t)) (KF O))))))) [(0,t0),(2,t2),(3,t3),(10,t10),(11,t11),(12,t12)] H []
theorem QoU (O : Nat) (t0 t2 t3 t10 t11 t12 : V) (H : Qa) : PI O t0 t2 t3 t10 t11 t12 H =
 bnd (Qb .add 6 t12 (.int .i64 1)) fun v28 =>
 Ux O t0 t2 t3 t10 t11 v28 H := by kernel_rfl
def MS (O : Nat) (t0 t2 : V) (H : Qa) : Option (Out × Qa) :=
Wm O (cAt [1,1,1,1,1,1] YJ) (KF O) [(0,t0),(2,t2)] H []
theorem QaK (O : Nat) (t0 t2 : V) (H : Qa) : MS O t0 t2 H =
 bcall (E PP [t0,(.fn Uw [])] H) (fun v42 h43 =>
 bcall (E Fe [t0,(.fn Bv [])] h43) (fun v44 h45 =>
 bcall (E Fp [v44,(.int .i64 4),(.int .i64 0)] h45) (fun v46 h47 =>
 beff (Qs O 6 h47 t2 v46) fun v48 h49 =>
 bnd (Qc true 6 h49 t2) fun v50 =>
 rt false O v50 h49)
 (fun v46 h47 => pn false O v46 h47))
 (fun v44 h45 => pn false O v44 h45))
 (fun v42 h43 => pn false O v42 h43) := by kernel_rfl
theorem F1 (O : Nat) (t0 t2 t3 t10 t11 t12 : V) (H : Qa) : Ux O t0 t2 t3 t10 t11 t12 H =
 bnd (Qb .lss 6 t12 t11) fun v11 =>
 cnd v11
 (bnd (Qx 6 t10 t12) fun v12 =>
 bnd (Qc true 6 H v12) fun v13 =>
 beff (QD H (.agg [(.int .i64 0),(.int .u64 0),(.int .u64 0),(.int .u64 0),(.int .u64 0),.nils])) fun v14 h15 =>
 beff (Qs O 6 h15 v14 v13) fun v16 h17 =>
 bnd (Qq v14 0) fun v18 =>
 bnd (Qc false 1 h17 v18) fun v19 =>
 bnd (Qb .eql 6 v19 (.int .i64 2)) fun v20 =>
 cnd v20
 (bnd (Qc true 4 h17 t3) fun v21 =>
 bnd (Qq v14 1) fun v22 =>
 bnd (Qc true 4 h17 v22) fun v23 =>
 bcall (E D5 [v21,v23] h17) (fun v24 h25 =>
 beff (Qs O 4 h25 t3 v24) fun v26 h27 =>
 PI O t0 t2 t3 t10 t11 t12 h27)
 (fun v24 h25 => pn false O v24 h25))
 (PI O t0 t2 t3 t10 t11 t12 h17))
 (bcall (E BI [(.int .i64 2)] H) (fun v29 h30 =>
 bcall (E UU [t0,v29] h30) (fun v31 h32 =>
 bnd (Qc true 4 h32 t3) fun v33 =>
 bnd (NT [(.int .u64 0),(.int .u64 0),(.int .u64 0),(.int .u64 0)] 1 []) fun v34 =>
 bnd (Qb .neq 46 v33 v34) fun v35 =>
 cnd v35
 (bnd (Qc true 4 h32 t3) fun v36 =>
 bcall (E AO [v36] h32) (fun v37 h38 =>
 bnd (Zq 6 1 (.agg [(.int .i64 0),(.int .u64 0),(.int .u64 0),(.int .u64 0),(.int .u64 0),(.vs [])]) [(0,v37)]) fun v39 =>
 bcall (E Bt [v31,(.int .i64 0),v39] h38) (fun v40 h41 =>
 MS O v40 t2 h41)
 (fun v40 h41 => pn false O v40 h41))
 (fun v37 h38 => pn false O v37 h38))
 (MS O v31 t2 h32))
 (fun v31 h32 => pn false O v31 h32))
 (fun v29 h30 => pn false O v29 h30)) := (Za (cAt [1,1,1,0,1,0,0] YJ) ((Qe 0 ((Qg (fun _ t => Wm O (cAt [1,1,1,1] YJ) (KF O) (Qf VY (cAt [1,1,1,1] YJ) t)) (KF O))))) _ H []).trans (by kernel_rfl)
def QcP (O : Nat) (t0 : V) (H : Qa) : Option (Out × Qa) := Wm O YJ (KF O) [(0,t0)] H []
theorem Qq4 (O : Nat) (t0 : V) (H : Qa) : QcP O t0 H =
 beff (QD H (.agg [(.int .i64 0),(.int .u64 0),(.int .u64 0),(.int .u64 0),(.int .u64 0),.nils])) fun v0 h1 =>
 bcall (E LR [t0,(.int .i64 4)] h1) (fun v2 h3 =>
 bcall (E BI [(.int .i64 0)] h3) (fun v4 h5 =>
 bcall (E UU [v2,v4] h5) (fun v6 h7 =>
 beff (QD h7 (.agg [(.int .u64 0),(.int .u64 0),(.int .u64 0),(.int .u64 0)])) fun v8 h9 =>
 bnd (QM v6) fun v10 =>
 Ux O v6 v0 v8 v6 v10 (.int .i64 0) h9)
 (fun v6 h7 => pn false O v6 h7))
 (fun v4 h5 => pn false O v4 h5))
 (fun v2 h3 => pn false O v2 h3) := by kernel_rfl
theorem QhX (t0 : V) (H : Qa) : E Fl [t0] H = QcP H.length t0 H := (QR Tryd.func47 (by kernel_rfl) (by kernel_rfl) (by kernel_rfl)).trans (by kernel_rfl)
def Y7 : Code := QO Tryd.f48
def Vf : Ks := [(2,[1,4,7,8,9]),(7,[1,4,7,8,9])]
def Wu (O : Nat) : KC (Out × Qa) := QP Tryd.prog D true O 27 Tryd.f48.results.toList
def Vr (O : Nat) (c : Code) (k : KC (Out × Qa)) (t : Ts) (H : Qa) (d : Ds) : Option (Out × Qa) := xC Tryd.prog O false Vf E 27 c k t H d
def Eb (O : Nat) (t1 t4 t7 t8 t9 : V) (H : Qa) : Option (Out × Qa) :=
Qt (fun t H d again => Vr O (cAt [1,0,1,0,0] Y7) (Ql Vf (cAt [1,0,1,0,0] Y7) again ((Qe 0 ((Qg (fun _ t => Vr O (cAt [1,1] Y7) (Wu O) (Qf Vf (cAt [1,1] Y7) t)) (Wu O)))))) t H d) [(1,t1),(4,t4),(7,t7),(8,t8),(9,t9)] H []
def R4 (O : Nat) (t1 t4 t7 t8 t9 : V) (H : Qa) : Option (Out × Qa) :=
Vr O (cAt [1,0,1,0,0,1,1,1] Y7) ((Ql Vf (cAt [1,0,1,0,0] Y7) (Qt (fun t H d again => Vr O (cAt [1,0,1,0,0] Y7) (Ql Vf (cAt [1,0,1,0,0] Y7) again ((Qe 0 ((Qg (fun _ t => Vr O (cAt [1,1] Y7) (Wu O) (Qf Vf (cAt [1,1] Y7) t)) (Wu O)))))) t H d)) ((Qe 0 ((Qg (fun _ t => Vr O (cAt [1,1] Y7) (Wu O) (Qf Vf (cAt [1,1] Y7) t)) (Wu O))))))) [(1,t1),(4,t4),(7,t7),(8,t8),(9,t9)] H []
theorem Qhw (O : Nat) (t1 t4 t7 t8 t9 : V) (H : Qa) : R4 O t1 t4 t7 t8 t9 H =
 bnd (Qb .add 6 t9 (.int .i64 1)) fun v15 =>
 Eb O t1 t4 t7 t8 v15 H := by kernel_rfl
theorem Qmk (O : Nat) (t1 t4 t7 t8 t9 : V) (H : Qa) : Eb O t1 t4 t7 t8 t9 H =
 bnd (Qb .lss 6 t9 t8) fun v1 =>
 cnd v1
 (bnd (Qx 6 t7 t9) fun v2 =>
 bnd (Qc true 6 H v2) fun v3 =>
 beff (QD H (.agg [(.int .i64 0),(.int .u64 0),(.int .u64 0),(.int .u64 0),(.int .u64 0),.nils])) fun v4 h5 =>
 beff (Qs O 6 h5 v4 v3) fun v6 h7 =>
 bnd (Qq v4 0) fun v8 =>
 bnd (Qc false 1 h7 v8) fun v9 =>
 bnd (Qb .eql 6 v9 t1) fun v10 =>
 cnd v10
 (bnd (Qq v4 5) fun v11 =>
 bnd (Qc false 1 h7 v11) fun v12 =>
 beff (Z1 O 6 64 true t4 v12 h7) fun v13 h14 =>
 R4 O t1 v13 t7 t8 t9 h14)
 (bnd (Qc true 6 h7 v4) fun v16 =>
 bnd (Zq 6 1 (.agg [(.int .i64 0),(.int .u64 0),(.int .u64 0),(.int .u64 0),(.int .u64 0),(.vs [])]) [(0,v16)]) fun v17 =>
 beff (Z1 O 6 64 true t4 v17 h7) fun v18 h19 =>
 R4 O t1 v18 t7 t8 t9 h19))
 (rt true O t4 H) := (Za (cAt [1,0,1,0,0] Y7) ((Qe 0 ((Qg (fun _ t => Vr O (cAt [1,1] Y7) (Wu O) (Qf Vf (cAt [1,1] Y7) t)) (Wu O))))) _ H []).trans (by kernel_rfl)
def Qf4 (O : Nat) (t0 t1 : V) (H : Qa) : Option (Out × Qa) := Vr O Y7 (Wu O) [(0,t0),(1,t1)] H []
theorem QoR (O : Nat) (t0 t1 : V) (H : Qa) : Qf4 O t0 t1 H =
 bnd (QM t0) fun v0 =>
 Eb O t1 .nils t0 v0 (.int .i64 0) H := by kernel_rfl
theorem Qml (t0 t1 : V) (H : Qa) : E LR [t0,t1] H = Qf4 H.length t0 t1 H := (QR Tryd.func48 (by kernel_rfl) (by kernel_rfl) (by kernel_rfl)).trans (by kernel_rfl)
def Qlx : Code := QO Tryd.f49
def QmM : Ks := []
def Qj4 (O : Nat) : KC (Out × Qa) := QP Tryd.prog D false O 4 Tryd.f49.results.toList
def Qnh (O : Nat) (c : Code) (k : KC (Out × Qa)) (t : Ts) (H : Qa) (d : Ds) : Option (Out × Qa) := xC Tryd.prog O false QmM E 4 c k t H d
def TC (O : Nat) (t0 : V) (H : Qa) : Option (Out × Qa) := Qnh O Qlx (Qj4 O) [(0,t0)] H []
theorem Qqm (O : Nat) (t0 : V) (H : Qa) : TC O t0 H =
 beff (QD H t0) fun v0 h1 =>
 bnd (Gz Jk [v0]) fun v2 =>
 rt false O v2 h1 := by kernel_rfl
theorem QqR (t0 : V) (H : Qa) : E BI [t0] H = TC H.length t0 H := (QR Tryd.func49 (by kernel_rfl) (by kernel_rfl) (by kernel_rfl)).trans (by kernel_rfl)
def Qon : Code := QO Tryd.f50
def Qmp : Ks := []
def Qip (O : Nat) : KC (Out × Qa) := QP Tryd.prog D false O 21 Tryd.f50.results.toList
def QlK (O : Nat) (c : Code) (k : KC (Out × Qa)) (t : Ts) (H : Qa) (d : Ds) : Option (Out × Qa) := xC Tryd.prog O false Qmp E 21 c k t H d
def QaQ (O : Nat) (t0 t1 t2 : V) (H : Qa) : Option (Out × Qa) := QlK O Qon (Qip O) [(0,t0),(1,t1),(2,t2)] H []
theorem Qlw (O : Nat) (t0 t1 t2 : V) (H : Qa) : QaQ O t0 t1 t2 H =
 beff (QD H (.agg [(.int .i64 0),(.int .u64 0),(.int .u64 0),(.int .u64 0),(.int .u64 0),.nils])) fun v0 h1 =>
 bnd (QM t0) fun v2 =>
 bnd (Qb .eql 6 v2 (.int .i64 0)) fun v3 =>
 cnd v3
 (bnd (Zj [(.int .i64 0),(.int .u64 0),(.int .u64 0),(.int .u64 0),(.int .u64 0),.nils] [(0,1),(1,4),(5,1)] [(0,t2)]) fun v4 =>
 beff (Qs O 6 h1 v0 v4) fun v5 h6 =>
 bnd (Qc true 6 h6 v0) fun v7 =>
 rt false O v7 h6)
 (bnd (Qb .eql 6 v2 (.int .i64 1)) fun v8 =>
 cnd v8
 (bnd (Qx 6 t0 (.int .i64 0)) fun v9 =>
 bnd (Qc true 6 h1 v9) fun v10 =>
 beff (Qs O 6 h1 v0 v10) fun v11 h12 =>
 bnd (Qc true 6 h12 v0) fun v13 =>
 rt false O v13 h12)
 (bnd (Zj [(.int .i64 0),(.int .u64 0),(.int .u64 0),(.int .u64 0),(.int .u64 0),.nils] [(0,1),(1,4),(5,1)] [(0,t1),(2,t0)]) fun v14 =>
 beff (Qs O 6 h1 v0 v14) fun v15 h16 =>
 bnd (Qc true 6 h16 v0) fun v17 =>
 rt false O v17 h16)) := by kernel_rfl
theorem QhP (t0 t1 t2 : V) (H : Qa) : E Fp [t0,t1,t2] H = QaQ H.length t0 t1 t2 H := (QR Tryd.func50 (by kernel_rfl) (by kernel_rfl) (by kernel_rfl)).trans (by kernel_rfl)
def YN : Code := QO Tryd.f51
def VA : Ks := [(5,[0,1,5,6]),(6,[0,1,5,6])]
def Wt (O : Nat) : KC (Out × Qa) := QP Tryd.prog D true O 42 Tryd.f51.results.toList
def VF (O : Nat) (c : Code) (k : KC (Out × Qa)) (t : Ts) (H : Qa) (d : Ds) : Option (Out × Qa) := xC Tryd.prog O true VA E 42 c k t H d
def RS (O : Nat) (t0 t1 t5 t6 : V) (H : Qa) : Option (Out × Qa) :=
Qt (fun t H d again => VF O (cAt [1,1,1,0,1,0,0] YN) (Ql VA (cAt [1,1,1,0,1,0,0] YN) again ((Qe 0 ((Qg (fun _ t => VF O (cAt [1,1,1,1] YN) (Wt O) (Qf VA (cAt [1,1,1,1] YN) t)) (Wt O)))))) t H d) [(0,t0),(1,t1),(5,t5),(6,t6)] H []
def Gi (O : Nat) (t0 t1 t5 t6 : V) (H : Qa) : Option (Out × Qa) :=
VF O (cAt [1,1,1,0,1,0,0,1,1] YN) ((Ql VA (cAt [1,1,1,0,1,0,0] YN) (Qt (fun t H d again => VF O (cAt [1,1,1,0,1,0,0] YN) (Ql VA (cAt [1,1,1,0,1,0,0] YN) again ((Qe 0 ((Qg (fun _ t => VF O (cAt [1,1,1,1] YN) (Wt O) (Qf VA (cAt [1,1,1,1] YN) t)) (Wt O)))))) t H d)) ((Qe 0 ((Qg (fun _ t => VF O (cAt [1,1,1,1] YN) (Wt O) (Qf VA (cAt [1,1,1,1] YN) t)) (Wt O))))))) [(0,t0),(1,t1),(5,t5),(6,t6)] H []
theorem QoB (O : Nat) (t0 t1 t5 t6 : V) (H : Qa) : Gi O t0 t1 t5 t6 H =
 bnd (Qb .add 6 t6 (.int .i64 1)) fun v21 =>
 RS O t0 t1 t5 v21 H := by kernel_rfl
theorem QqN (O : Nat) (t0 t1 t5 t6 : V) (H : Qa) : RS O t0 t1 t5 t6 H =
 bnd (QM t0) fun v4 =>
 bnd (Qb .lss 6 t6 v4) fun v5 =>
 cnd v5
 (bnd (Qx 6 t0 t6) fun v6 =>
 bnd (Qc true 6 H v6) fun v7 =>
 beff (QD H (.agg [(.int .i64 0),(.int .u64 0),(.int .u64 0),(.int .u64 0),(.int .u64 0),.nils])) fun v8 h9 =>
 beff (Qs O 6 h9 v8 v7) fun v10 h11 =>
 bnd (Qc true 6 h11 v8) fun v12 =>
 bcall (J6 E t1 [v12] h11) (fun v13 h14 =>
 bnd (oUn .not v13) fun v15 =>
 cnd v15
 (bnd (Qc true 6 h14 v8) fun v16 =>
 bnd (Qx 6 t0 t5) fun v17 =>
 beff (Qs O 6 h14 v17 v16) fun v18 h19 =>
 bnd (Qb .add 6 t5 (.int .i64 1)) fun v20 =>
 Gi O t0 t1 v20 t6 h19)
 (Gi O t0 t1 t5 t6 h14))
 (fun v13 h14 => pn true O v13 h14))
 (bnd (JO 6 t0 (some t5) none none) fun v22 =>
 beff (N7 O 6 [(.int .i64 0),(.int .u64 0),(.int .u64 0),(.int .u64 0),(.int .u64 0),.nils] v22 H) fun v23 h24 =>
 bnd (JO 6 t0 none (some t5) none) fun v25 =>
 rt true O v25 h24) := (Za (cAt [1,1,1,0,1,0,0] YN) ((Qe 0 ((Qg (fun _ t => VF O (cAt [1,1,1,1] YN) (Wt O) (Qf VA (cAt [1,1,1,1] YN) t)) (Wt O))))) _ H []).trans (by kernel_rfl)
def Tu (O : Nat) (t0 t1 : V) (H : Qa) : Option (Out × Qa) := VF O YN (Wt O) [(0,t0),(1,t1)] H []
theorem Eo (O : Nat) (t0 t1 : V) (H : Qa) : Tu O t0 t1 H =
 bcall (E Ef [t0,t1] H) (fun v0 h1 =>
 bnd (Qb .eql 6 v0 (.int .i64 (-1))) fun v2 =>
 cnd v2
 (rt true O t0 h1)
 (bnd (Qb .add 6 v0 (.int .i64 1)) fun v3 =>
 RS O t0 t1 v0 v3 h1))
 (fun v0 h1 => pn true O v0 h1) := by kernel_rfl
theorem DK (t0 t1 : V) (H : Qa) : E UU [t0,t1] H = Tu H.length t0 t1 H := (QR Tryd.func51 (by kernel_rfl) (by kernel_rfl) (by kernel_rfl)).trans (by kernel_rfl)
def Qoc : Code := QO Tryd.f52
def QlY : Ks := []
def Qkn (O : Nat) : KC (Out × Qa) := QP Tryd.prog D false O 43 Tryd.f52.results.toList
def QlQ (O : Nat) (c : Code) (k : KC (Out × Qa)) (t : Ts) (H : Qa) (d : Ds) : Option (Out × Qa) := xC Tryd.prog O false QlY E 43 c k t H d
def Qe8 (O : Nat) (t0 t1 : V) (H : Qa) : Option (Out × Qa) := QlQ O Qoc (Qkn O) [(0,t0),(1,t1)] H []
theorem Qo0 (O : Nat) (t0 t1 : V) (H : Qa) : Qe8 O t0 t1 H =
 bnd (Kg t0) fun v0 =>
 bnd (Qq v0 1) fun v1 =>
 bnd (Qc false 1 H v1) fun v2 =>
 bnd (Qb .add 6 v2 (.int .i64 1)) fun v3 =>
 bnd (Kg t0) fun v4 =>
 bnd (Qq v4 1) fun v5 =>
 beff (Qs O 1 H v5 v3) fun v6 h7 =>
 bnd (Kg t0) fun v8 =>
 bnd (Qq v8 1) fun v9 =>
 bnd (Qc false 1 h7 v9) fun v10 =>
 bnd (Kg t0) fun v11 =>
 bnd (Qq v11 0) fun v12 =>
 bnd (Qc false 1 h7 v12) fun v13 =>
 bnd (QM v13) fun v14 =>
 bnd (Qb .gtr 6 v10 v14) fun v15 =>
 bnd (gua v15 false (QL t0) (some (.tup []))) fun v16 =>
 bnd (gua v15 false (Kg v16) (some (.tup []))) fun v17 =>
 bnd (gua v15 false (Qq v17 1) (some (.tup []))) fun v18 =>
 bnd (gua v15 false (Qc false 1 h7 v18) (some (.tup []))) fun v19 =>
 bnd (gua v15 false (Qb .gtr 6 v19 (.int .i64 150)) (some (.tup []))) fun v20 =>
 bnd (QY v15 (.bool true) v20) fun v21 =>
 cnd v21
 (rt false O (.int .i64 0) h7)
 (bnd (Kg t0) fun v22 =>
 bnd (Qq v22 0) fun v23 =>
 bnd (Qc false 1 h7 v23) fun v24 =>
 bnd (Kg t0) fun v25 =>
 bnd (Qq v25 1) fun v26 =>
 bnd (Qc false 1 h7 v26) fun v27 =>
 bnd (Qb .sub 6 v27 (.int .i64 1)) fun v28 =>
 bnd (Qx 1 v24 v28) fun v29 =>
 bnd (Qc false 1 h7 v29) fun v30 =>
 bnd (Yc .i64 v30) fun v31 =>
 bnd (Qb .rem 6 v31 t1) fun v32 =>
 rt false O v32 h7) := by kernel_rfl
theorem Qlz (t0 t1 : V) (H : Qa) : E VB [t0,t1] H = Qe8 H.length t0 t1 H := (QR Tryd.func52 (by kernel_rfl) (by kernel_rfl) (by kernel_rfl)).trans (by kernel_rfl)
def Qig : Code := QO Tryd.f53
def Ql2 : Ks := []
def QqW (O : Nat) : KC (Out × Qa) := QP Tryd.prog D false O 9 Tryd.f53.results.toList
def Qpv (O : Nat) (c : Code) (k : KC (Out × Qa)) (t : Ts) (H : Qa) (d : Ds) : Option (Out × Qa) := xC Tryd.prog O false Ql2 E 9 c k t H d
def QbO (O : Nat) (t0 t1 : V) (H : Qa) : Option (Out × Qa) := Qpv O Qig (QqW O) [(0,t0),(1,t1)] H []
theorem Qjw (O : Nat) (t0 t1 : V) (H : Qa) : QbO O t0 t1 H =
 beff (QD H (.agg [(.int .i64 0),(.int .u64 0),(.int .u64 0),(.int .u64 0),(.int .u64 0),.nils])) fun v0 h1 =>
 bcall (E BH [t0,t1] h1) (fun v2 h3 =>
 bnd (Zj [(.int .i64 0),(.int .u64 0),(.int .u64 0),(.int .u64 0),(.int .u64 0),.nils] [(0,1),(1,4),(5,1)] [(0,(.int .i64 2)),(1,v2)]) fun v4 =>
 beff (Qs O 6 h3 v0 v4) fun v5 h6 =>
 bnd (Qc true 6 h6 v0) fun v7 =>
 rt false O v7 h6)
 (fun v2 h3 => pn false O v2 h3) := by kernel_rfl
theorem QpL (t0 t1 : V) (H : Qa) : E EG [t0,t1] H = QbO H.length t0 t1 H := (QR Tryd.func53 (by kernel_rfl) (by kernel_rfl) (by kernel_rfl)).trans (by kernel_rfl)
def V1 : Code := QO Tryd.f54
def El : Ks := [(3,[0,1,2,7,8])]
def Nx (O : Nat) : KC (Out × Qa) := QP Tryd.prog D false O 21 Tryd.f54.results.toList
def Ph (O : Nat) (c : Code) (k : KC (Out × Qa)) (t : Ts) (H : Qa) (d : Ds) : Option (Out × Qa) := xC Tryd.prog O false El E 21 c k t H d
def P2 (O : Nat) (t0 t1 t2 t7 t8 : V) (H : Qa) : Option (Out × Qa) :=
Qt (fun t H d again => Ph O (cAt [1,1,0,1,0,0] V1) (Ql El (cAt [1,1,0,1,0,0] V1) again ((Qe 0 ((Qg (fun _ t => Ph O (cAt [1,1,1] V1) (Nx O) (Qf El (cAt [1,1,1] V1) t)) (Nx O)))))) t H d) [(0,t0),(1,t1),(2,t2),(7,t7),(8,t8)] H []
theorem Qb6 (O : Nat) (t0 t1 t2 t7 t8 : V) (H : Qa) : P2 O t0 t1 t2 t7 t8 H =
 bnd (Qb .lss 6 t8 t1) fun v0 =>
 cnd v0
 (bcall (E NU [t0,t2] H) (fun v1 h2 =>
 bnd (Zq 6 1 (.agg [(.int .i64 0),(.int .u64 0),(.int .u64 0),(.int .u64 0),(.int .u64 0),(.vs [])]) [(0,v1)]) fun v3 =>
 beff (Z1 O 6 64 true t7 v3 h2) fun v4 h5 =>
 bnd (Qb .add 6 t8 (.int .i64 1)) fun v6 =>
 P2 O t0 t1 t2 v4 v6 h5)
 (fun v1 h2 => pn false O v1 h2))
 (rt false O t7 H) := (Za (cAt [1,1,0,1,0,0] V1) ((Qe 0 ((Qg (fun _ t => Ph O (cAt [1,1,1] V1) (Nx O) (Qf El (cAt [1,1,1] V1) t)) (Nx O))))) _ H []).trans (by kernel_rfl)
def QfC (O : Nat) (t0 t1 t2 : V) (H : Qa) : Option (Out × Qa) := Ph O V1 (Nx O) [(0,t0),(1,t1),(2,t2)] H []
theorem QjE (O : Nat) (t0 t1 t2 : V) (H : Qa) : QfC O t0 t1 t2 H =
 P2 O t0 t1 t2 .nils (.int .i64 0) H := by kernel_rfl
theorem QlO (t0 t1 t2 : V) (H : Qa) : E FJ [t0,t1,t2] H = QfC H.length t0 t1 t2 H := (QR Tryd.func54 (by kernel_rfl) (by kernel_rfl) (by kernel_rfl)).trans (by kernel_rfl)
def YS : Code := QO Tryd.f55
def Vq : Ks := [(3,[2,3,4,5,6,7,12,13,14]),(4,[2,3,4,5,6,7,12,13,14])]
def Ww (O : Nat) : KC (Out × Qa) := QP Tryd.prog D false O 69 Tryd.f55.results.toList
def WY (O : Nat) (c : Code) (k : KC (Out × Qa)) (t : Ts) (H : Qa) (d : Ds) : Option (Out × Qa) := xC Tryd.prog O false Vq E 69 c k t H d
def BA (O : Nat) (t2 t3 t4 t5 t6 t7 t12 t13 t14 : V) (H : Qa) : Option (Out × Qa) :=
Qt (fun t H d again => WY O (cAt [1,1,0,1,0,0] YS) (Ql Vq (cAt [1,1,0,1,0,0] YS) again ((Qe 0 ((Qg (fun _ t => WY O (cAt [1,1,1] YS) (Ww O) (Qf Vq (cAt [1,1,1] YS) t)) (Ww O)))))) t H d) [(2,t2),(3,t3),(4,t4),(5,t5),(6,t6),(7,t7),(12,t12),(13,t13),(14,t14)] H []
def NN (O : Nat) (t2 t3 t4 t5 t6 t7 t12 t13 t14 : V) (H : Qa) : Option (Out × Qa) :=
WY O (cAt [1,1,0,1,0,0,1,1] YS) ((Ql Vq (cAt [1,1,0,1,0,0] YS) (Qt (fun t H d again => WY O (cAt [1,1,0,1,0,0] YS) (Ql Vq (cAt [1,1,0,1,0,0] YS) again ((Qe 0 ((Qg (fun _ t => WY O (cAt [1,1,1] YS) (Ww O) (Qf Vq (cAt [1,1,1] YS) t)) (Ww O)))))) t H d)) ((Qe 0 ((Qg (fun _ t => WY O (cAt [1,1,1] YS) (Ww O) (Qf Vq (cAt [1,1,1] YS) t)) (Ww O))))))) [(2,t2),(3,t3),(4,t4),(5,t5),(6,t6),(7,t7),(12,t12),(13,t13),(14,t14)] H []
theorem XS (O : Nat) (t2 t3 t4 t5 t6 t7 t12 t13 t14 : V) (H : Qa) : NN O t2 t3 t4 t5 t6 t7 t12 t13 t14 H =
 bnd (Qb .add 6 t14 (.int .i64 1)) fun v52 =>
 BA O t2 t3 t4 t5 t6 t7 t12 t13 v52 H := by kernel_rfl
theorem QmJ (O : Nat) (t2 t3 t4 t5 t6 t7 t12 t13 t14 : V) (H : Qa) : BA O t2 t3 t4 t5 t6 t7 t12 t13 t14 H =
 bnd (Qb .lss 6 t14 (.int .i64 256)) fun v8 =>
 cnd v8
 (bnd (Qc true 4 H t6) fun v9 =>
 bcall (E Vy [v9,t14] H) (fun v10 h11 =>
 bnd (bnd (Qc true 4 h11 t7) fun v12 => sch (sam (Qc true 4 H t7) v12) (
 some v12)) fun v12 =>
 bcall (E Vy [v12,t14] h11) (fun v13 h14 =>
 bnd (oUn .not v10) fun v15 =>
 bnd (gua v15 true (QL v13) (some (.tup []))) fun v16 =>
 bnd (gua v15 true (oUn .not v16) (some (.tup []))) fun v17 =>
 bnd (QY v15 v17 (.bool false)) fun v18 =>
 bnd (gua v18 true (QL t2) (some (.tup []))) fun v19 =>
 bnd (QY v18 v19 (.bool false)) fun v20 =>
 bnd (gua v20 false (QL v10) (some (.tup []))) fun v21 =>
 bnd (gua v20 false (QL v21) (some (.tup []))) fun v22 =>
 bnd (gua v22 true (QL v13) (some (.tup []))) fun v23 =>
 bnd (gua v22 true (oUn .not v23) (some (.tup []))) fun v24 =>
 bnd (gua v20 false (QY v22 v24 (.bool false)) (some (.tup []))) fun v25 =>
 bnd (gua v20 false (QL v25) (some (.tup []))) fun v26 =>
 bnd (gua v26 true (QL t3) (some (.tup []))) fun v27 =>
 bnd (gua v20 false (QY v26 v27 (.bool false)) (some (.tup []))) fun v28 =>
 bnd (QY v20 (.bool true) v28) fun v29 =>
 bnd (gua v29 false (QL v10) (some (.tup []))) fun v30 =>
 bnd (gua v29 false (oUn .not v30) (some (.tup []))) fun v31 =>
 bnd (gua v29 false (QL v31) (some (.tup []))) fun v32 =>
 bnd (gua v32 true (QL v13) (some (.tup []))) fun v33 =>
 bnd (gua v29 false (QY v32 v33 (.bool false)) (some (.tup []))) fun v34 =>
 bnd (gua v29 false (QL v34) (some (.tup []))) fun v35 =>
 bnd (gua v35 true (QL t4) (some (.tup []))) fun v36 =>
 bnd (gua v29 false (QY v35 v36 (.bool false)) (some (.tup []))) fun v37 =>
 bnd (QY v29 (.bool true) v37) fun v38 =>
 bnd (gua v38 false (QL v10) (some (.tup []))) fun v39 =>
 bnd (gua v38 false (QL v39) (some (.tup []))) fun v40 =>
 bnd (gua v40 true (QL v13) (some (.tup []))) fun v41 =>
 bnd (gua v38 false (QY v40 v41 (.bool false)) (some (.tup []))) fun v42 =>
 bnd (gua v38 false (QL v42) (some (.tup []))) fun v43 =>
 bnd (gua v43 true (QL t5) (some (.tup []))) fun v44 =>
 bnd (gua v38 false (QY v43 v44 (.bool false)) (some (.tup []))) fun v45 =>
 bnd (QY v38 (.bool true) v45) fun v46 =>
 cnd v46
 (bnd (Qc true 4 h14 t13) fun v47 =>
 bcall (E Eg [v47,t14] h14) (fun v48 h49 =>
 beff (Qs O 4 h49 t13 v48) fun v50 h51 =>
 NN O t2 t3 t4 t5 t6 t7 t12 t13 t14 h51)
 (fun v48 h49 => pn false O v48 h49))
 (NN O t2 t3 t4 t5 t6 t7 t12 t13 t14 h14))
 (fun v13 h14 => pn false O v13 h14))
 (fun v10 h11 => sch (tlb (Qc true 4 H t7) fun v53 => tlb (QL t14) fun v54 => true) (pn false O v10 h11)))
 (bnd (Qc true 4 H t13) fun v55 =>
 beff (Qs O 4 H t12 v55) fun v56 h57 =>
 bnd (Qc true 4 h57 t12) fun v58 =>
 rt false O v58 h57) := (Za (cAt [1,1,0,1,0,0] YS) ((Qe 0 ((Qg (fun _ t => WY O (cAt [1,1,1] YS) (Ww O) (Qf Vq (cAt [1,1,1] YS) t)) (Ww O))))) _ H []).trans (by kernel_rfl)
def TI (O : Nat) (t0 t1 t2 t3 t4 t5 : V) (H : Qa) : Option (Out × Qa) := WY O YS (Ww O) [(0,t0),(1,t1),(2,t2),(3,t3),(4,t4),(5,t5)] H []
theorem QlH (O : Nat) (t0 t1 t2 t3 t4 t5 : V) (H : Qa) : TI O t0 t1 t2 t3 t4 t5 H =
 beff (QD H t0) fun v0 h1 =>
 beff (QD h1 t1) fun v2 h3 =>
 beff (QD h3 (.agg [(.int .u64 0),(.int .u64 0),(.int .u64 0),(.int .u64 0)])) fun v4 h5 =>
 beff (QD h5 (.agg [(.int .u64 0),(.int .u64 0),(.int .u64 0),(.int .u64 0)])) fun v6 h7 =>
 BA O t2 t3 t4 t5 v0 v2 v4 v6 (.int .i64 0) h7 := by kernel_rfl
theorem Qot (t0 t1 t2 t3 t4 t5 : V) (H : Qa) : E Cv [t0,t1,t2,t3,t4,t5] H = TI H.length t0 t1 t2 t3 t4 t5 H := (QR Tryd.func55 (by kernel_rfl) (by kernel_rfl) (by kernel_rfl)).trans (by kernel_rfl)
end
end Go.Proofs.YtdnmpaielmfiiaaDoor
end
