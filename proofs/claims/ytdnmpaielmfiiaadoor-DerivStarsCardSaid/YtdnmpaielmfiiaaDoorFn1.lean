/- Fn1: a part of the proof that each law of this seat answers true at every input. No condition. -/
import Derived.Test.YtdnmpaielmfiiaaDoorHint
import Derived.KernelRfl
set_option linter.unusedVariables false
set_option linter.unusedSimpArgs false
set_option maxRecDepth 20000
section
namespace Go.Proofs.YtdnmpaielmfiiaaDoor
open Go Go.Ev
noncomputable section
def Quj : Code := QO Tryd.f10
def Qur : Ks := [(6,[0,1,2,7])]
def Qug (O : Nat) : KC (Out × Qa) := QP Tryd.prog D false O 65 Tryd.f10.results.toList
def Qui (O : Nat) (c : Code) (k : KC (Out × Qa)) (t : Ts) (H : Qa) (d : Ds) : Option (Out × Qa) := xC Tryd.prog O false Qur E 65 c k t H d
def Lt (O : Nat) (t0 t1 t2 t7 : V) (H : Qa) : Option (Out × Qa) :=
Qui O (cAt [1,1,1,1] Quj) (Qug O) [(0,t0),(1,t1),(2,t2),(7,t7)] H []
theorem Qum (O : Nat) (t0 t1 t2 t7 : V) (H : Qa) : Lt O t0 t1 t2 t7 H =
 bcall (E MX [t0,(.int .i64 0)] H) (fun v6 h7 =>
 beff (QD h7 (.agg [(.int .i64 0),(.int .u64 0),(.int .u64 0),(.int .u64 0),(.int .u64 0),.nils])) fun v8 h9 =>
 beff (Qs O 6 h9 v8 v6) fun v10 h11 =>
 bnd (Qc true 6 h11 v8) fun v12 =>
 bcall (E WI [v12] h11) (fun v13 h14 =>
 beff (QD h14 (.agg [(.int .i64 0),(.int .u64 0),(.int .u64 0),(.int .u64 0),(.int .u64 0),.nils])) fun v15 h16 =>
 beff (Qs O 6 h16 v15 v13) fun v17 h18 =>
 bcall (E VU [t1,(.int .i64 3)] h18) (fun v19 h20 =>
 bcall (E VU [t2,(.int .i64 3)] h20) (fun v21 h22 =>
 bnd (Qc true 6 h22 v15) fun v23 =>
 bcall (E UO [v23,v19] h22) (fun v24 h25 =>
 bnd (bnd (Qc true 6 h25 v15) fun v26 => sch (sam (Qc true 6 h22 v15) v26) (
 some v26)) fun v26 =>
 bcall (E UO [v26,v21] h25) (fun v27 h28 =>
 bnd (gua t7 true (Qc true 6 h28 v15) (some (.tup []))) fun v29 =>
 bcall (gua t7 true (E UO [v29,(.str [])] h28) (some (.ret (.tup []),h28))) (fun v30 h31 =>
 bnd (QY t7 v30 (.bool false)) fun v32 =>
 bnd (gua v32 true (Qc true 6 h31 v8) (some (.tup []))) fun v33 =>
 bnd (gua v32 true (QL v19) (some (.tup []))) fun v34 =>
 bcall (gua v32 true (E UO [v33,v34] h31) (some (.ret (.tup []),h31))) (fun v35 h36 =>
 bnd (gua v32 true (oUn .not v35) (some (.tup []))) fun v37 =>
 bnd (gua v32 true (QL v37) (some (.tup []))) fun v38 =>
 bnd (gua v38 false (QL v24) (some (.tup []))) fun v39 =>
 bnd (gua v32 true (QY v38 (.bool true) v39) (some (.tup []))) fun v40 =>
 bnd (QY v32 v40 (.bool false)) fun v41 =>
 bnd (gua v41 true (QL v24) (some (.tup []))) fun v42 =>
 bnd (gua v41 true (oUn .not v42) (some (.tup []))) fun v43 =>
 bnd (gua v41 true (QL v43) (some (.tup []))) fun v44 =>
 bnd (gua v44 false (QL v27) (some (.tup []))) fun v45 =>
 bnd (gua v44 false (oUn .not v45) (some (.tup []))) fun v46 =>
 bnd (gua v41 true (QY v44 (.bool true) v46) (some (.tup []))) fun v47 =>
 bnd (gua v41 true (QL v47) (some (.tup []))) fun v48 =>
 bnd (gua v48 false (Qc true 6 h36 v15) (some (.tup []))) fun v49 =>
 bnd (gua v48 false (QL v19) (some (.tup []))) fun v50 =>
 bnd (gua v48 false (QL v21) (some (.tup []))) fun v51 =>
 bnd (gua v48 false (Qb .add 6 v50 v51) (some (.tup []))) fun v52 =>
 bcall (gua v48 false (E UO [v49,v52] h36) (some (.ret (.tup []),h36))) (fun v53 h54 =>
 bnd (gua v41 true (QY v48 (.bool true) v53) (some (.tup []))) fun v55 =>
 bnd (QY v41 v55 (.bool false)) fun v56 =>
 rt false O v56 h54)
 (fun v53 h54 => pn false O v53 h54))
 (fun v35 h36 => pn false O v35 h36))
 (fun v30 h31 => pn false O v30 h31))
 (fun v27 h28 => pn false O v27 h28))
 (fun v24 h25 => sch (tlb (Qc true 6 h22 v15) fun v57 => tlb (QL v21) fun v58 => true) (pn false O v24 h25)))
 (fun v21 h22 => pn false O v21 h22))
 (fun v19 h20 => pn false O v19 h20))
 (fun v13 h14 => pn false O v13 h14))
 (fun v6 h7 => pn false O v6 h7) := by kernel_rfl
def Quk (O : Nat) (t0 t1 t2 : V) (H : Qa) : Option (Out × Qa) := Qui O Quj (Qug O) [(0,t0),(1,t1),(2,t2)] H []
theorem Qup (O : Nat) (t0 t1 t2 : V) (H : Qa) : Quk O t0 t1 t2 H =
 bcall (E Nk [] H) (fun v0 h1 =>
 bnd (oUn .not v0) fun v2 =>
 cnd v2
 (rt false O (.bool false) h1)
 (bnd (QM t0) fun v3 =>
 bnd (Qb .gtr 6 v3 (.int .i64 100)) fun v4 =>
 cnd v4
 (bnd (JO 1 t0 none (some (.int .i64 100)) none) fun v5 =>
 Lt O v5 t1 t2 v0 h1)
 (Lt O t0 t1 t2 v0 h1)))
 (fun v0 h1 => pn false O v0 h1) := by kernel_rfl
theorem Quu (t0 t1 t2 : V) (H : Qa) : E Qul [t0,t1,t2] H = Quk H.length t0 t1 t2 H := (QR Tryd.func10 (by kernel_rfl) (by kernel_rfl) (by kernel_rfl)).trans (by kernel_rfl)
def Qpw : Code := QO Tryd.f12
def Qkd : Ks := []
def QpA (O : Nat) : KC (Out × Qa) := QP Tryd.prog D false O 42 Tryd.f12.results.toList
def Qpu (O : Nat) (c : Code) (k : KC (Out × Qa)) (t : Ts) (H : Qa) (d : Ds) : Option (Out × Qa) := xC Tryd.prog O false Qkd E 42 c k t H d
def QhD (O : Nat) (H : Qa) : Option (Out × Qa) := Qpu O Qpw (QpA O) [] H []
theorem Qp8 (O : Nat) (H : Qa) : QhD O  H =
 bcall (E BH [(.int .i64 97),(.int .i64 97)] H) (fun v0 h1 =>
 bnd (Zj [(.int .i64 0),(.int .u64 0),(.int .u64 0),(.int .u64 0),(.int .u64 0),.nils] [(0,1),(1,4),(5,1)] [(0,(.int .i64 2)),(1,v0)]) fun v2 =>
 bcall (E BH [(.int .i64 98),(.int .i64 98)] h1) (fun v3 h4 =>
 bnd (Zj [(.int .i64 0),(.int .u64 0),(.int .u64 0),(.int .u64 0),(.int .u64 0),.nils] [(0,1),(1,4),(5,1)] [(0,(.int .i64 2)),(1,v3)]) fun v5 =>
 beff (QD h4 (.agg [(.int .i64 0),(.int .u64 0),(.int .u64 0),(.int .u64 0),(.int .u64 0),.nils])) fun v6 h7 =>
 beff (QD h7 (.agg [(.int .i64 0),(.int .u64 0),(.int .u64 0),(.int .u64 0),(.int .u64 0),.nils])) fun v8 h9 =>
 beff (Qs O 6 h9 v6 v2) fun v10 h11 =>
 beff (Qs O 6 h11 v8 v5) fun v12 h13 =>
 bnd (Qc true 6 h13 v6) fun v14 =>
 bcall (E WI [v14] h13) (fun v15 h16 =>
 bnd (Qc true 6 h16 v8) fun v17 =>
 sch (sam (Qc true 6 h13 v8) v17) (
 bnd (Zq 6 2 (.agg [(.int .i64 0),(.int .u64 0),(.int .u64 0),(.int .u64 0),(.int .u64 0),(.vs [])]) [(0,v15),(1,v17)]) fun v18 =>
 bcall (E Vi [v18] h16) (fun v19 h20 =>
 beff (QD h20 (.agg [(.int .i64 0),(.int .u64 0),(.int .u64 0),(.int .u64 0),(.int .u64 0),.nils])) fun v21 h22 =>
 sch (sam (Qc true 6 h22 v8) v17) (
 sch (sam (Qc true 6 h22 v6) v14) (
 beff (Qs O 6 h22 v21 v19) fun v23 h24 =>
 bnd (Qc true 6 h24 v21) fun v25 =>
 bcall (E Y5 [v25,(.int .i64 97)] h24) (fun v26 h27 =>
 bnd (bnd (Qc true 6 h27 v21) fun v28 => sch (sam (Qc true 6 h24 v21) v28) (
 some v28)) fun v28 =>
 bcall (E Jv [v26,v28] h27) (fun v29 h30 =>
 bnd (gua v29 true (Qc true 6 h30 v21) (some (.tup []))) fun v31 =>
 bcall (gua v29 true (E Y5 [v31,(.int .i64 98)] h30) (some (.ret (.tup []),h30))) (fun v32 h33 =>
 bnd (gua v29 true (F8 0 false 1 v32) (some (.tup []))) fun v34 =>
 bnd (gua v29 true (Qb .eql 6 v34 (.int .i64 1)) (some (.tup []))) fun v35 =>
 bnd (QY v29 v35 (.bool false)) fun v36 =>
 bnd (gua v36 true (Qc true 6 h33 v21) (some (.tup []))) fun v37 =>
 bcall (gua v36 true (E JH [v37] h33) (some (.ret (.tup []),h33))) (fun v38 h39 =>
 bnd (gua v36 true (oUn .not v38) (some (.tup []))) fun v40 =>
 bnd (QY v36 v40 (.bool false)) fun v41 =>
 bnd (gua v41 true (Qc true 6 h39 v21) (some (.tup []))) fun v42 =>
 bcall (gua v41 true (E UO [v42,(.str [97,97,98])] h39) (some (.ret (.tup []),h39))) (fun v43 h44 =>
 bnd (QY v41 v43 (.bool false)) fun v45 =>
 bnd (gua v45 true (Qc true 6 h44 v21) (some (.tup []))) fun v46 =>
 bcall (gua v45 true (E UO [v46,(.str [97,98,97])] h44) (some (.ret (.tup []),h44))) (fun v47 h48 =>
 bnd (gua v45 true (oUn .not v47) (some (.tup []))) fun v49 =>
 bnd (QY v45 v49 (.bool false)) fun v50 =>
 bnd (gua v50 true (Qc true 6 h48 v6) (some (.tup []))) fun v51 =>
 bcall (gua v50 true (E WI [v51] h48) (some (.ret (.tup []),h48))) (fun v52 h53 =>
 bcall (gua v50 true (E JH [v52] h53) (some (.ret (.tup []),h53))) (fun v54 h55 =>
 bnd (QY v50 v54 (.bool false)) fun v56 =>
 rt false O v56 h55)
 (fun v54 h55 => pn false O v54 h55))
 (fun v52 h53 => pn false O v52 h53))
 (fun v47 h48 => pn false O v47 h48))
 (fun v43 h44 => pn false O v43 h44))
 (fun v38 h39 => pn false O v38 h39))
 (fun v32 h33 => pn false O v32 h33))
 (fun v29 h30 => pn false O v29 h30))
 (fun v26 h27 => sch (tlb (Qc true 6 h24 v21) fun v57 => true) (pn false O v26 h27)))))
 (fun v19 h20 => sch (false) (pn false O v19 h20))))
 (fun v15 h16 => sch (tlb (Qc true 6 h13 v8) fun v59 => false) (pn false O v15 h16)))
 (fun v3 h4 => pn false O v3 h4))
 (fun v0 h1 => pn false O v0 h1) := by kernel_rfl
theorem Qo1 (H : Qa) : E Nk [] H = QhD H.length  H := (QR Tryd.func12 (by kernel_rfl) (by kernel_rfl) (by kernel_rfl)).trans (by kernel_rfl)
def X6 : Code := QO Tryd.f13
def Qjx : Ks := [(9,[])]
def TE (O : Nat) : KC (Out × Qa) := QP Tryd.prog D false O 19 Tryd.f13.results.toList
def XD (O : Nat) (c : Code) (k : KC (Out × Qa)) (t : Ts) (H : Qa) (d : Ds) : Option (Out × Qa) := xC Tryd.prog O false Qjx E 19 c k t H d
def G6 (O : Nat) (H : Qa) : Option (Out × Qa) :=
XD O (cAt [1,1] X6) (TE O) [] H []
theorem QlR (O : Nat) (H : Qa) : G6 O  H =
 rt false O (.bool false) H := by kernel_rfl
def Qc5 (O : Nat) (t0 : V) (H : Qa) : Option (Out × Qa) := XD O X6 (TE O) [(0,t0)] H []
theorem QiX (O : Nat) (t0 : V) (H : Qa) : Qc5 O t0 H =
 beff (QD H t0) fun v0 h1 =>
 bnd (Qq v0 0) fun v2 =>
 bnd (Qc false 1 h1 v2) fun v3 =>
 bnd (Qb .eql 6 v3 (.int .i64 1)) fun v4 =>
 cnd v4
 (cnd v4
 (rt false O (.bool true) h1)
 (bnd (Qb .eql 6 v3 (.int .i64 3)) fun v5 =>
 cnd v5
 (bnd (Qq v0 5) fun v6 =>
 bnd (Qc false 1 h1 v6) fun v7 =>
 bcall (E Ul [v7,(.fn N8 [])] h1) (fun v8 h9 =>
 bnd (oUn .not v8) fun v10 =>
 rt false O v10 h9)
 (fun v8 h9 => pn false O v8 h9))
 (bnd (Qb .eql 6 v3 (.int .i64 4)) fun v11 =>
 cnd v11
 (bnd (Qq v0 5) fun v12 =>
 bnd (Qc false 1 h1 v12) fun v13 =>
 bcall (E Ul [v13,(.fn JH [])] h1) (fun v14 h15 =>
 rt false O v14 h15)
 (fun v14 h15 => pn false O v14 h15))
 (G6 O  h1))))
 (bnd (Qb .eql 6 v3 (.int .i64 5)) fun v16 =>
 cnd v16
 (rt false O (.bool true) h1)
 (bnd (Qb .eql 6 v3 (.int .i64 3)) fun v17 =>
 cnd v17
 (bnd (Qq v0 5) fun v18 =>
 bnd (Qc false 1 h1 v18) fun v19 =>
 bcall (E Ul [v19,(.fn N8 [])] h1) (fun v20 h21 =>
 bnd (oUn .not v20) fun v22 =>
 rt false O v22 h21)
 (fun v20 h21 => pn false O v20 h21))
 (bnd (Qb .eql 6 v3 (.int .i64 4)) fun v23 =>
 cnd v23
 (bnd (Qq v0 5) fun v24 =>
 bnd (Qc false 1 h1 v24) fun v25 =>
 bcall (E Ul [v25,(.fn JH [])] h1) (fun v26 h27 =>
 rt false O v26 h27)
 (fun v26 h27 => pn false O v26 h27))
 (G6 O  h1)))) := by kernel_rfl
theorem Qow (t0 : V) (H : Qa) : E JH [t0] H = Qc5 H.length t0 H := (QR Tryd.func13 (by kernel_rfl) (by kernel_rfl) (by kernel_rfl)).trans (by kernel_rfl)
def Vt : Code := QO Tryd.f15
def Fs : Ks := [(4,[2,3,5])]
def RN (O : Nat) : KC (Out × Qa) := QP Tryd.prog D false O 46 Tryd.f15.results.toList
def Fc (O : Nat) (c : Code) (k : KC (Out × Qa)) (t : Ts) (H : Qa) (d : Ds) : Option (Out × Qa) := xC Tryd.prog O false Fs E 46 c k t H d
def PR (O : Nat) (t2 t3 t5 : V) (H : Qa) : Option (Out × Qa) :=
Qt (fun t H d again => Fc O (cAt [1,1,0,1,0,0] Vt) (Ql Fs (cAt [1,1,0,1,0,0] Vt) again ((Qe 0 ((Qg (fun _ t => Fc O (cAt [1,1,1] Vt) (RN O) (Qf Fs (cAt [1,1,1] Vt) t)) (RN O)))))) t H d) [(2,t2),(3,t3),(5,t5)] H []
theorem XO (O : Nat) (t2 t3 t5 : V) (H : Qa) : PR O t2 t3 t5 H =
 bnd (Qq t2 5) fun v23 =>
 bnd (Qc false 1 H v23) fun v24 =>
 bnd (QM v24) fun v25 =>
 bnd (Qb .lss 6 t5 v25) fun v26 =>
 cnd v26
 (bnd (Qq t2 5) fun v27 =>
 bnd (Qc false 1 H v27) fun v28 =>
 bnd (Qx 6 v28 t5) fun v29 =>
 bnd (Qc true 6 H v29) fun v30 =>
 bnd (Qq t3 5) fun v31 =>
 bnd (Qc false 1 H v31) fun v32 =>
 bnd (Qx 6 v32 t5) fun v33 =>
 bnd (Qc true 6 H v33) fun v34 =>
 bcall (E Jv [v30,v34] H) (fun v35 h36 =>
 bnd (oUn .not v35) fun v37 =>
 cnd v37
 (rt false O (.bool false) h36)
 (bnd (Qb .add 6 t5 (.int .i64 1)) fun v38 =>
 PR O t2 t3 v38 h36))
 (fun v35 h36 => pn false O v35 h36))
 (rt false O (.bool true) H) := (Za (cAt [1,1,0,1,0,0] Vt) ((Qe 0 ((Qg (fun _ t => Fc O (cAt [1,1,1] Vt) (RN O) (Qf Fs (cAt [1,1,1] Vt) t)) (RN O))))) _ H []).trans (by kernel_rfl)
def QhE (O : Nat) (t0 t1 : V) (H : Qa) : Option (Out × Qa) := Fc O Vt (RN O) [(0,t0),(1,t1)] H []
theorem Qn4 (O : Nat) (t0 t1 : V) (H : Qa) : QhE O t0 t1 H =
 beff (QD H t0) fun v0 h1 =>
 beff (QD h1 t1) fun v2 h3 =>
 bnd (Qq v0 0) fun v4 =>
 bnd (Qc false 1 h3 v4) fun v5 =>
 bnd (Qq v2 0) fun v6 =>
 bnd (Qc false 1 h3 v6) fun v7 =>
 bnd (Qb .neq 6 v5 v7) fun v8 =>
 bnd (gua v8 false (Qq v0 1) (some (.tup []))) fun v9 =>
 bnd (gua v8 false (Qc true 4 h3 v9) (some (.tup []))) fun v10 =>
 bnd (gua v8 false (Qq v2 1) (some (.tup []))) fun v11 =>
 bnd (gua v8 false (Qc true 4 h3 v11) (some (.tup []))) fun v12 =>
 bnd (gua v8 false (Qb .neq 46 v10 v12) (some (.tup []))) fun v13 =>
 bnd (QY v8 (.bool true) v13) fun v14 =>
 bnd (gua v14 false (Qq v0 5) (some (.tup []))) fun v15 =>
 bnd (gua v14 false (Qc false 1 h3 v15) (some (.tup []))) fun v16 =>
 bnd (gua v14 false (QM v16) (some (.tup []))) fun v17 =>
 bnd (gua v14 false (Qq v2 5) (some (.tup []))) fun v18 =>
 bnd (gua v14 false (Qc false 1 h3 v18) (some (.tup []))) fun v19 =>
 bnd (gua v14 false (QM v19) (some (.tup []))) fun v20 =>
 bnd (gua v14 false (Qb .neq 6 v17 v20) (some (.tup []))) fun v21 =>
 bnd (QY v14 (.bool true) v21) fun v22 =>
 cnd v22
 (rt false O (.bool false) h3)
 (PR O v0 v2 (.int .i64 0) h3) := by kernel_rfl
theorem QjP (t0 t1 : V) (H : Qa) : E Jv [t0,t1] H = QhE H.length t0 t1 H := (QR Tryd.func15 (by kernel_rfl) (by kernel_rfl) (by kernel_rfl)).trans (by kernel_rfl)
def QkL : Code := QO Tryd.f16
def QoE : Ks := []
def Qof (O : Nat) : KC (Out × Qa) := QP Tryd.prog D false O 50 Tryd.f16.results.toList
def Qqq (O : Nat) (c : Code) (k : KC (Out × Qa)) (t : Ts) (H : Qa) (d : Ds) : Option (Out × Qa) := xC Tryd.prog O false QoE E 50 c k t H d
def TG (O : Nat) (t0 t1 : V) (H : Qa) : Option (Out × Qa) := Qqq O QkL (Qof O) [(0,t0),(1,t1)] H []
theorem Qos (O : Nat) (t0 t1 : V) (H : Qa) : TG O t0 t1 H =
 beff (QD H t0) fun v0 h1 =>
 beff (QD h1 (.agg [(.int .i64 0),(.int .u64 0),(.int .u64 0),(.int .u64 0),(.int .u64 0),.nils])) fun v2 h3 =>
 bnd (Qq v0 0) fun v4 =>
 bnd (Qc false 1 h3 v4) fun v5 =>
 bnd (Qb .eql 6 v5 (.int .i64 2)) fun v6 =>
 bnd (gua v6 true (Qq v0 1) (some (.tup []))) fun v7 =>
 bnd (gua v6 true (Qc true 4 h3 v7) (some (.tup []))) fun v8 =>
 bnd (gua v6 true (QL t1) (some (.tup []))) fun v9 =>
 bcall (gua v6 true (E DZ [v8,v9] h3) (some (.ret (.tup []),h3))) (fun v10 h11 =>
 bnd (QY v6 v10 (.bool false)) fun v12 =>
 cnd v12
 (bnd (Zj [(.int .i64 0),(.int .u64 0),(.int .u64 0),(.int .u64 0),(.int .u64 0),.nils] [(0,1),(1,4),(5,1)] [(0,(.int .i64 1))]) fun v13 =>
 beff (Qs O 6 h11 v2 v13) fun v14 h15 =>
 bnd (Qc true 6 h15 v2) fun v16 =>
 rt false O v16 h15)
 (bnd (Qq v0 0) fun v17 =>
 bnd (Qc false 1 h11 v17) fun v18 =>
 bnd (Qb .eql 6 v18 (.int .i64 3)) fun v19 =>
 cnd v19
 (bnd (Qc true 6 h11 v0) fun v20 =>
 bcall (E EC [v20,t1] h11) (fun v21 h22 =>
 beff (Qs O 6 h22 v2 v21) fun v23 h24 =>
 bnd (Qc true 6 h24 v2) fun v25 =>
 rt false O v25 h24)
 (fun v21 h22 => pn false O v21 h22))
 (bnd (Qq v0 0) fun v26 =>
 bnd (Qc false 1 h11 v26) fun v27 =>
 bnd (Qb .eql 6 v27 (.int .i64 4)) fun v28 =>
 cnd v28
 (bnd (Qc true 6 h11 v0) fun v29 =>
 bcall (E EW [v29,t1] h11) (fun v30 h31 =>
 beff (Qs O 6 h31 v2 v30) fun v32 h33 =>
 bnd (Qc true 6 h33 v2) fun v34 =>
 rt false O v34 h33)
 (fun v30 h31 => pn false O v30 h31))
 (bnd (Qq v0 0) fun v35 =>
 bnd (Qc false 1 h11 v35) fun v36 =>
 bnd (Qb .eql 6 v36 (.int .i64 5)) fun v37 =>
 bnd (gua v37 true (Qq v0 5) (some (.tup []))) fun v38 =>
 bnd (gua v37 true (Qc false 1 h11 v38) (some (.tup []))) fun v39 =>
 bnd (gua v37 true (QM v39) (some (.tup []))) fun v40 =>
 bnd (gua v37 true (Qb .eql 6 v40 (.int .i64 1)) (some (.tup []))) fun v41 =>
 bnd (QY v37 v41 (.bool false)) fun v42 =>
 cnd v42
 (bnd (Qq v0 5) fun v43 =>
 bnd (Qc false 1 h11 v43) fun v44 =>
 bnd (Qx 6 v44 (.int .i64 0)) fun v45 =>
 bnd (Qc true 6 h11 v45) fun v46 =>
 bcall (E Y5 [v46,t1] h11) (fun v47 h48 =>
 bnd (bnd (Qc true 6 h48 v0) fun v49 => sch (sam (Qc true 6 h11 v0) v49) (
 some v49)) fun v49 =>
 bnd (Zq 6 2 (.agg [(.int .i64 0),(.int .u64 0),(.int .u64 0),(.int .u64 0),(.int .u64 0),(.vs [])]) [(0,v47),(1,v49)]) fun v50 =>
 bcall (E PX [v50] h48) (fun v51 h52 =>
 beff (Qs O 6 h52 v2 v51) fun v53 h54 =>
 bnd (Qc true 6 h54 v2) fun v55 =>
 rt false O v55 h54)
 (fun v51 h52 => pn false O v51 h52))
 (fun v47 h48 => sch (tlb (Qc true 6 h11 v0) fun v56 => true) (pn false O v47 h48)))
 (bnd (Zj [(.int .i64 0),(.int .u64 0),(.int .u64 0),(.int .u64 0),(.int .u64 0),.nils] [(0,1),(1,4),(5,1)] [(0,(.int .i64 0))]) fun v57 =>
 beff (Qs O 6 h11 v2 v57) fun v58 h59 =>
 bnd (Qc true 6 h59 v2) fun v60 =>
 rt false O v60 h59)))))
 (fun v10 h11 => pn false O v10 h11) := by kernel_rfl
theorem QlJ (t0 t1 : V) (H : Qa) : E Y5 [t0,t1] H = TG H.length t0 t1 H := (QR Tryd.func16 (by kernel_rfl) (by kernel_rfl) (by kernel_rfl)).trans (by kernel_rfl)
def QqD : Code := QO Tryd.f18
def QjK : Ks := []
def Qop (O : Nat) : KC (Out × Qa) := QP Tryd.prog D false O 12 Tryd.f18.results.toList
def Qpp (O : Nat) (c : Code) (k : KC (Out × Qa)) (t : Ts) (H : Qa) (d : Ds) : Option (Out × Qa) := xC Tryd.prog O false QjK E 12 c k t H d
def Qd4 (O : Nat) (t0 t1 : V) (H : Qa) : Option (Out × Qa) := Qpp O QqD (Qop O) [(0,t0),(1,t1)] H []
theorem Qks (O : Nat) (t0 t1 : V) (H : Qa) : Qd4 O t0 t1 H =
 beff (QD H (.agg [(.int .i64 0),(.int .u64 0),(.int .u64 0),(.int .u64 0),(.int .u64 0),.nils])) fun v0 h1 =>
 bnd (Zj [.nils,(.int .i64 0)] [(0,1),(1,1)] [(0,t0),(1,t1)]) fun v2 =>
 beff (QD h1 v2) fun v3 h4 =>
 bcall (E NU [v3,(.int .i64 4)] h4) (fun v5 h6 =>
 beff (Qs O 6 h6 v0 v5) fun v7 h8 =>
 bnd (Qc true 6 h8 v0) fun v9 =>
 rt false O v9 h8)
 (fun v5 h6 => pn false O v5 h6) := by kernel_rfl
theorem QjZ (t0 t1 : V) (H : Qa) : E MX [t0,t1] H = Qd4 H.length t0 t1 H := (QR Tryd.func18 (by kernel_rfl) (by kernel_rfl) (by kernel_rfl)).trans (by kernel_rfl)
def QiS : Code := QO Tryd.f19
def QkC : Ks := []
def QqO (O : Nat) : KC (Out × Qa) := QP Tryd.prog D false O 15 Tryd.f19.results.toList
def QkY (O : Nat) (c : Code) (k : KC (Out × Qa)) (t : Ts) (H : Qa) (d : Ds) : Option (Out × Qa) := xC Tryd.prog O false QkC E 15 c k t H d
def Qa2 (O : Nat) (t0 t1 : V) (H : Qa) : Option (Out × Qa) := QkY O QiS (QqO O) [(0,t0),(1,t1)] H []
theorem QoP (O : Nat) (t0 t1 : V) (H : Qa) : Qa2 O t0 t1 H =
 bnd (Zq 1 5 (.str []) [(0,(.str [97])),(1,(.str [98])),(2,(.str [99])),(3,(.str [100])),(4,(.str [97]))]) fun v0 =>
 bcall (E DY [t0,v0] H) (fun v1 h2 =>
 bnd (Us v1) fun v3 =>
 bnd (Fh [v3,t1]) fun v4 =>
 bnd (F2 v1 none (some v4) none) fun v5 =>
 rt false O v5 h2)
 (fun v1 h2 => pn false O v1 h2) := by kernel_rfl
theorem QqJ (t0 t1 : V) (H : Qa) : E VU [t0,t1] H = Qa2 H.length t0 t1 H := (QR Tryd.func19 (by kernel_rfl) (by kernel_rfl) (by kernel_rfl)).trans (by kernel_rfl)
def WT : Code := QO Tryd.f20
def Gy : Ks := [(2,[1,2,5])]
def Ng (O : Nat) : KC (Out × Qa) := QP Tryd.prog D false O 20 Tryd.f20.results.toList
def Ff (O : Nat) (c : Code) (k : KC (Out × Qa)) (t : Ts) (H : Qa) (d : Ds) : Option (Out × Qa) := xC Tryd.prog O false Gy E 20 c k t H d
def GY (O : Nat) (t1 t2 t5 : V) (H : Qa) : Option (Out × Qa) :=
Qt (fun t H d again => Ff O (cAt [1,0,1,0,0] WT) (Ql Gy (cAt [1,0,1,0,0] WT) again ((Qe 0 ((Qg (fun _ t => Ff O (cAt [1,1] WT) (Ng O) (Qf Gy (cAt [1,1] WT) t)) (Ng O)))))) t H d) [(1,t1),(2,t2),(5,t5)] H []
theorem Qe0 (O : Nat) (t1 t2 t5 : V) (H : Qa) : GY O t1 t2 t5 H =
 bnd (Us t1) fun v2 =>
 bnd (Qb .lss 6 t5 v2) fun v3 =>
 cnd v3
 (bnd (Qc true 6 H t2) fun v4 =>
 bnd (KE t1 t5) fun v5 =>
 bnd (Yc .i64 v5) fun v6 =>
 bcall (E Y5 [v4,v6] H) (fun v7 h8 =>
 beff (Qs O 6 h8 t2 v7) fun v9 h10 =>
 bnd (Qb .add 6 t5 (.int .i64 1)) fun v11 =>
 GY O t1 t2 v11 h10)
 (fun v7 h8 => pn false O v7 h8))
 (bnd (Qc true 6 H t2) fun v12 =>
 bcall (E JH [v12] H) (fun v13 h14 =>
 rt false O v13 h14)
 (fun v13 h14 => pn false O v13 h14)) := (Za (cAt [1,0,1,0,0] WT) ((Qe 0 ((Qg (fun _ t => Ff O (cAt [1,1] WT) (Ng O) (Qf Gy (cAt [1,1] WT) t)) (Ng O))))) _ H []).trans (by kernel_rfl)
def QfT (O : Nat) (t0 t1 : V) (H : Qa) : Option (Out × Qa) := Ff O WT (Ng O) [(0,t0),(1,t1)] H []
theorem QhO (O : Nat) (t0 t1 : V) (H : Qa) : QfT O t0 t1 H =
 beff (QD H t0) fun v0 h1 =>
 GY O t1 v0 (.int .i64 0) h1 := by kernel_rfl
theorem Qj6 (t0 t1 : V) (H : Qa) : E UO [t0,t1] H = QfT H.length t0 t1 H := (QR Tryd.func20 (by kernel_rfl) (by kernel_rfl) (by kernel_rfl)).trans (by kernel_rfl)
def YX : Code := QO Tryd.f22
def VD : Ks := [(4,[2,3,4,5]),(5,[2,3,4,5])]
def Wg (O : Nat) : KC (Out × Qa) := QP Tryd.prog D false O 40 Tryd.f22.results.toList
def VK (O : Nat) (c : Code) (k : KC (Out × Qa)) (t : Ts) (H : Qa) (d : Ds) : Option (Out × Qa) := xC Tryd.prog O false VD E 40 c k t H d
def Rk (O : Nat) (t2 t3 t4 t5 : V) (H : Qa) : Option (Out × Qa) :=
Qt (fun t H d again => VK O (cAt [1,1,1,0,1,0,0] YX) (Ql VD (cAt [1,1,1,0,1,0,0] YX) again ((Qe 0 ((Qg (fun _ t => VK O (cAt [1,1,1,1] YX) (Wg O) (Qf VD (cAt [1,1,1,1] YX) t)) (Wg O)))))) t H d) [(2,t2),(3,t3),(4,t4),(5,t5)] H []
def Qud (O : Nat) (t2 t3 t4 t5 : V) (H : Qa) : Option (Out × Qa) :=
VK O (cAt [1,1,1,0,1,0,0,1,1] YX) ((Ql VD (cAt [1,1,1,0,1,0,0] YX) (Qt (fun t H d again => VK O (cAt [1,1,1,0,1,0,0] YX) (Ql VD (cAt [1,1,1,0,1,0,0] YX) again ((Qe 0 ((Qg (fun _ t => VK O (cAt [1,1,1,1] YX) (Wg O) (Qf VD (cAt [1,1,1,1] YX) t)) (Wg O)))))) t H d)) ((Qe 0 ((Qg (fun _ t => VK O (cAt [1,1,1,1] YX) (Wg O) (Qf VD (cAt [1,1,1,1] YX) t)) (Wg O))))))) [(2,t2),(3,t3),(4,t4),(5,t5)] H []
theorem QfF (O : Nat) (t2 t3 t4 t5 : V) (H : Qa) : Qud O t2 t3 t4 t5 H =
 bnd (Qb .add 6 t5 (.int .i64 1)) fun v23 =>
 Rk O t2 t3 t4 v23 H := by kernel_rfl
theorem QoM (O : Nat) (t2 t3 t4 t5 : V) (H : Qa) : Rk O t2 t3 t4 t5 H =
 bnd (QM t3) fun v4 =>
 bnd (Qb .lss 6 t5 v4) fun v5 =>
 cnd v5
 (bnd (Qx 6 t3 t5) fun v6 =>
 bnd (Qq v6 0) fun v7 =>
 bnd (Qc false 1 H v7) fun v8 =>
 bnd (Qb .eql 6 v8 (.int .i64 0)) fun v9 =>
 cnd v9
 (bnd (Zj [(.int .i64 0),(.int .u64 0),(.int .u64 0),(.int .u64 0),(.int .u64 0),.nils] [(0,1),(1,4),(5,1)] []) fun v10 =>
 beff (Qs O 6 H t2 v10) fun v11 h12 =>
 bnd (Qc true 6 h12 t2) fun v13 =>
 rt false O v13 h12)
 (bnd (Qx 6 t3 t5) fun v14 =>
 bnd (Qq v14 0) fun v15 =>
 bnd (Qc false 1 H v15) fun v16 =>
 bnd (Qb .neq 6 v16 (.int .i64 1)) fun v17 =>
 cnd v17
 (bnd (Qx 6 t3 t5) fun v18 =>
 bnd (Qc true 6 H v18) fun v19 =>
 bnd (Zq 6 1 (.agg [(.int .i64 0),(.int .u64 0),(.int .u64 0),(.int .u64 0),(.int .u64 0),(.vs [])]) [(0,v19)]) fun v20 =>
 beff (Z1 O 6 64 true t4 v20 H) fun v21 h22 =>
 Qud O t2 t3 v21 t5 h22)
 (Qud O t2 t3 t4 t5 H)))
 (bnd (QM t4) fun v24 =>
 bnd (Qb .eql 6 v24 (.int .i64 0)) fun v25 =>
 cnd v25
 (bnd (Zj [(.int .i64 0),(.int .u64 0),(.int .u64 0),(.int .u64 0),(.int .u64 0),.nils] [(0,1),(1,4),(5,1)] [(0,(.int .i64 1))]) fun v26 =>
 beff (Qs O 6 H t2 v26) fun v27 h28 =>
 bnd (Qc true 6 h28 t2) fun v29 =>
 rt false O v29 h28)
 (bcall (E L2 [t4,(.int .i64 3)] H) (fun v30 h31 =>
 beff (Qs O 6 h31 t2 v30) fun v32 h33 =>
 bnd (Qc true 6 h33 t2) fun v34 =>
 rt false O v34 h33)
 (fun v30 h31 => pn false O v30 h31))) := (Za (cAt [1,1,1,0,1,0,0] YX) ((Qe 0 ((Qg (fun _ t => VK O (cAt [1,1,1,1] YX) (Wg O) (Qf VD (cAt [1,1,1,1] YX) t)) (Wg O))))) _ H []).trans (by kernel_rfl)
def Qc3 (O : Nat) (t0 : V) (H : Qa) : Option (Out × Qa) := VK O YX (Wg O) [(0,t0)] H []
theorem QmC (O : Nat) (t0 : V) (H : Qa) : Qc3 O t0 H =
 beff (QD H (.agg [(.int .i64 0),(.int .u64 0),(.int .u64 0),(.int .u64 0),(.int .u64 0),.nils])) fun v0 h1 =>
 bcall (E Ge [t0,(.int .i64 3)] h1) (fun v2 h3 =>
 Rk O v0 v2 .nils (.int .i64 0) h3)
 (fun v2 h3 => pn false O v2 h3) := by kernel_rfl
theorem QjC (t0 : V) (H : Qa) : E Vi [t0] H = Qc3 H.length t0 H := (QR Tryd.func22 (by kernel_rfl) (by kernel_rfl) (by kernel_rfl)).trans (by kernel_rfl)
def QgC : Code := QO Tryd.f23
def QoZ : Ks := [(7,[1,2])]
def QfG (O : Nat) : KC (Out × Qa) := QP Tryd.prog D false O 15 Tryd.f23.results.toList
def Qd2 (O : Nat) (c : Code) (k : KC (Out × Qa)) (t : Ts) (H : Qa) (d : Ds) : Option (Out × Qa) := xC Tryd.prog O false QoZ E 15 c k t H d
def Dx (O : Nat) (t1 t2 : V) (H : Qa) : Option (Out × Qa) :=
Qd2 O (cAt [1,1] QgC) (QfG O) [(1,t1),(2,t2)] H []
theorem Tg (O : Nat) (t1 t2 : V) (H : Qa) : Dx O t1 t2 H =
 bnd (Qc true 6 H t1) fun v16 =>
 bnd (Zq 6 1 (.agg [(.int .i64 0),(.int .u64 0),(.int .u64 0),(.int .u64 0),(.int .u64 0),(.vs [])]) [(0,v16)]) fun v17 =>
 bnd (Zj [(.int .i64 0),(.int .u64 0),(.int .u64 0),(.int .u64 0),(.int .u64 0),.nils] [(0,1),(1,4),(5,1)] [(0,(.int .i64 5)),(2,v17)]) fun v18 =>
 beff (Qs O 6 H t2 v18) fun v19 h20 =>
 bnd (Qc true 6 h20 t2) fun v21 =>
 rt false O v21 h20 := by kernel_rfl
def Qhn (O : Nat) (t0 : V) (H : Qa) : Option (Out × Qa) := Qd2 O QgC (QfG O) [(0,t0)] H []
theorem XC (O : Nat) (t0 : V) (H : Qa) : Qhn O t0 H =
 beff (QD H t0) fun v0 h1 =>
 beff (QD h1 (.agg [(.int .i64 0),(.int .u64 0),(.int .u64 0),(.int .u64 0),(.int .u64 0),.nils])) fun v2 h3 =>
 bnd (Qq v0 0) fun v4 =>
 bnd (Qc false 1 h3 v4) fun v5 =>
 bnd (Qb .eql 6 v5 (.int .i64 0)) fun v6 =>
 cnd v6
 (cnd v6
 (bnd (Zj [(.int .i64 0),(.int .u64 0),(.int .u64 0),(.int .u64 0),(.int .u64 0),.nils] [(0,1),(1,4),(5,1)] [(0,(.int .i64 1))]) fun v7 =>
 beff (Qs O 6 h3 v2 v7) fun v8 h9 =>
 bnd (Qc true 6 h9 v2) fun v10 =>
 rt false O v10 h9)
 (bnd (Qb .eql 6 v5 (.int .i64 5)) fun v11 =>
 cnd v11
 (bnd (Qc true 6 h3 v0) fun v12 =>
 beff (Qs O 6 h3 v2 v12) fun v13 h14 =>
 bnd (Qc true 6 h14 v2) fun v15 =>
 rt false O v15 h14)
 (Dx O v0 v2 h3)))
 (bnd (Qb .eql 6 v5 (.int .i64 1)) fun v22 =>
 cnd v22
 (bnd (Zj [(.int .i64 0),(.int .u64 0),(.int .u64 0),(.int .u64 0),(.int .u64 0),.nils] [(0,1),(1,4),(5,1)] [(0,(.int .i64 1))]) fun v23 =>
 beff (Qs O 6 h3 v2 v23) fun v24 h25 =>
 bnd (Qc true 6 h25 v2) fun v26 =>
 rt false O v26 h25)
 (bnd (Qb .eql 6 v5 (.int .i64 5)) fun v27 =>
 cnd v27
 (bnd (Qc true 6 h3 v0) fun v28 =>
 beff (Qs O 6 h3 v2 v28) fun v29 h30 =>
 bnd (Qc true 6 h30 v2) fun v31 =>
 rt false O v31 h30)
 (Dx O v0 v2 h3))) := by kernel_rfl
theorem QhA (t0 : V) (H : Qa) : E WI [t0] H = Qhn H.length t0 H := (QR Tryd.func23 (by kernel_rfl) (by kernel_rfl) (by kernel_rfl)).trans (by kernel_rfl)
def Jb : Code := QO Tryd.f24
def VM : Ks := [(3,[0,1,4,5,6]),(4,[0,1,4,5,6])]
def K7 (O : Nat) : KC (Out × Qa) := QP Tryd.prog D false O 23 Tryd.f24.results.toList
def VH (O : Nat) (c : Code) (k : KC (Out × Qa)) (t : Ts) (H : Qa) (d : Ds) : Option (Out × Qa) := xC Tryd.prog O false VM E 23 c k t H d
def MY (O : Nat) (t0 t1 t4 t5 t6 : V) (H : Qa) : Option (Out × Qa) :=
Qt (fun t H d again => VH O (cAt [1,1,0,1,0,0] Jb) (Ql VM (cAt [1,1,0,1,0,0] Jb) again ((Qe 0 ((Qg (fun _ t => VH O (cAt [1,1,1] Jb) (K7 O) (Qf VM (cAt [1,1,1] Jb) t)) (K7 O)))))) t H d) [(0,t0),(1,t1),(4,t4),(5,t5),(6,t6)] H []
def LM (O : Nat) (t0 t1 t4 t5 t6 : V) (H : Qa) : Option (Out × Qa) :=
VH O (cAt [1,1,0,1,0,0,1,1] Jb) ((Ql VM (cAt [1,1,0,1,0,0] Jb) (Qt (fun t H d again => VH O (cAt [1,1,0,1,0,0] Jb) (Ql VM (cAt [1,1,0,1,0,0] Jb) again ((Qe 0 ((Qg (fun _ t => VH O (cAt [1,1,1] Jb) (K7 O) (Qf VM (cAt [1,1,1] Jb) t)) (K7 O)))))) t H d)) ((Qe 0 ((Qg (fun _ t => VH O (cAt [1,1,1] Jb) (K7 O) (Qf VM (cAt [1,1,1] Jb) t)) (K7 O))))))) [(0,t0),(1,t1),(4,t4),(5,t5),(6,t6)] H []
theorem Qh1 (O : Nat) (t0 t1 t4 t5 t6 : V) (H : Qa) : LM O t0 t1 t4 t5 t6 H =
 bnd (Qb .add 6 t6 (.int .i64 1)) fun v15 =>
 MY O t0 t1 t4 t5 v15 H := by kernel_rfl
theorem QjL (O : Nat) (t0 t1 t4 t5 t6 : V) (H : Qa) : MY O t0 t1 t4 t5 t6 H =
 bnd (Qb .lss 6 t6 (.int .i64 256)) fun v4 =>
 cnd v4
 (bnd (Qb .geq 6 t6 t0) fun v5 =>
 bnd (gua v5 true (QL t6) (some (.tup []))) fun v6 =>
 bnd (gua v5 true (QL t1) (some (.tup []))) fun v7 =>
 bnd (gua v5 true (Qb .leq 6 v6 v7) (some (.tup []))) fun v8 =>
 bnd (QY v5 v8 (.bool false)) fun v9 =>
 cnd v9
 (bnd (Qc true 4 H t5) fun v10 =>
 bcall (E Eg [v10,t6] H) (fun v11 h12 =>
 beff (Qs O 4 h12 t5 v11) fun v13 h14 =>
 LM O t0 t1 t4 t5 t6 h14)
 (fun v11 h12 => pn false O v11 h12))
 (LM O t0 t1 t4 t5 t6 H))
 (bnd (Qc true 4 H t5) fun v16 =>
 beff (Qs O 4 H t4 v16) fun v17 h18 =>
 bnd (Qc true 4 h18 t4) fun v19 =>
 rt false O v19 h18) := (Za (cAt [1,1,0,1,0,0] Jb) ((Qe 0 ((Qg (fun _ t => VH O (cAt [1,1,1] Jb) (K7 O) (Qf VM (cAt [1,1,1] Jb) t)) (K7 O))))) _ H []).trans (by kernel_rfl)
def QcL (O : Nat) (t0 t1 : V) (H : Qa) : Option (Out × Qa) := VH O Jb (K7 O) [(0,t0),(1,t1)] H []
theorem Qq0 (O : Nat) (t0 t1 : V) (H : Qa) : QcL O t0 t1 H =
 beff (QD H (.agg [(.int .u64 0),(.int .u64 0),(.int .u64 0),(.int .u64 0)])) fun v0 h1 =>
 beff (QD h1 (.agg [(.int .u64 0),(.int .u64 0),(.int .u64 0),(.int .u64 0)])) fun v2 h3 =>
 MY O t0 t1 v0 v2 (.int .i64 0) h3 := by kernel_rfl
theorem Qjy (t0 t1 : V) (H : Qa) : E BH [t0,t1] H = QcL H.length t0 t1 H := (QR Tryd.func24 (by kernel_rfl) (by kernel_rfl) (by kernel_rfl)).trans (by kernel_rfl)
def ZG : Code := QO Tryd.f26
def Jd : Ks := [(5,[2,3,4,5,6]),(6,[2,3,4,5,6]),(11,[2,3,4]),(12,[2,3,4,7]),(13,[2,3,4,7])]
def YA (O : Nat) : KC (Out × Qa) := QP Tryd.prog D false O 69 Tryd.f26.results.toList
def YO (O : Nat) (c : Code) (k : KC (Out × Qa)) (t : Ts) (H : Qa) (d : Ds) : Option (Out × Qa) := xC Tryd.prog O false Jd E 69 c k t H d
def Mw (O : Nat) (t2 t3 t4 t5 t6 : V) (H : Qa) : Option (Out × Qa) :=
Qt (fun t H d again => YO O (cAt [1,1,1,1,0,1,0,0] ZG) (Ql Jd (cAt [1,1,1,1,0,1,0,0] ZG) again ((Qe 0 ((Qg (fun _ t => YO O (cAt [1,1,1,1,1] ZG) (YA O) (Qf Jd (cAt [1,1,1,1,1] ZG) t)) (YA O)))))) t H d) [(2,t2),(3,t3),(4,t4),(5,t5),(6,t6)] H []
def GC (O : Nat) (t2 t3 t4 t5 t6 : V) (H : Qa) : Option (Out × Qa) :=
YO O (cAt [1,1,1,1,0,1,0,0,1,1] ZG) ((Ql Jd (cAt [1,1,1,1,0,1,0,0] ZG) (Qt (fun t H d again => YO O (cAt [1,1,1,1,0,1,0,0] ZG) (Ql Jd (cAt [1,1,1,1,0,1,0,0] ZG) again ((Qe 0 ((Qg (fun _ t => YO O (cAt [1,1,1,1,1] ZG) (YA O) (Qf Jd (cAt [1,1,1,1,1] ZG) t)) (YA O)))))) t H d)) ((Qe 0 ((Qg (fun _ t => YO O (cAt [1,1,1,1,1] ZG) (YA O) (Qf Jd (cAt [1,1,1,1,1] ZG) t)) (YA O))))))) [(2,t2),(3,t3),(4,t4),(5,t5),(6,t6)] H []
theorem QoC (O : Nat) (t2 t3 t4 t5 t6 : V) (H : Qa) : GC O t2 t3 t4 t5 t6 H =
 bnd (Qb .add 6 t6 (.int .i64 1)) fun v20 =>
 Mw O t2 t3 t4 t5 v20 H := by kernel_rfl
def Nr (O : Nat) (t2 t3 t4 t7 : V) (H : Qa) : Option (Out × Qa) :=
Qt (fun t H d again => YO O (cAt [1,1,1,1,1,1,0,1,0,0] ZG) (Ql Jd (cAt [1,1,1,1,1,1,0,1,0,0] ZG) again ((Qe 2 ((Qg (fun _ t => YO O (cAt [1,1,1,1,1,1,1] ZG) (YA O) (Qf Jd (cAt [1,1,1,1,1,1,1] ZG) t)) (YA O)))))) t H d) [(2,t2),(3,t3),(4,t4),(7,t7)] H []
def Gh (O : Nat) (t2 t3 t4 t7 : V) (H : Qa) : Option (Out × Qa) :=
YO O (cAt [1,1,1,1,1,1,0,1,0,0,1,1] ZG) ((Ql Jd (cAt [1,1,1,1,1,1,0,1,0,0] ZG) (Qt (fun t H d again => YO O (cAt [1,1,1,1,1,1,0,1,0,0] ZG) (Ql Jd (cAt [1,1,1,1,1,1,0,1,0,0] ZG) again ((Qe 2 ((Qg (fun _ t => YO O (cAt [1,1,1,1,1,1,1] ZG) (YA O) (Qf Jd (cAt [1,1,1,1,1,1,1] ZG) t)) (YA O)))))) t H d)) ((Qe 2 ((Qg (fun _ t => YO O (cAt [1,1,1,1,1,1,1] ZG) (YA O) (Qf Jd (cAt [1,1,1,1,1,1,1] ZG) t)) (YA O))))))) [(2,t2),(3,t3),(4,t4),(7,t7)] H []
theorem Qly (O : Nat) (t2 t3 t4 t7 : V) (H : Qa) : Gh O t2 t3 t4 t7 H =
 bnd (Qb .add 6 t7 (.int .i64 1)) fun v48 =>
 Nr O t2 t3 t4 v48 H := by kernel_rfl
theorem AS (O : Nat) (t2 t3 t4 t7 : V) (H : Qa) : Nr O t2 t3 t4 t7 H =
 bnd (QM t3) fun v31 =>
 bnd (Qb .lss 6 t7 v31) fun v32 =>
 cnd v32
 (bnd (Qx 6 t3 t7) fun v33 =>
 bnd (Qq v33 0) fun v34 =>
 bnd (Qc false 1 H v34) fun v35 =>
 bnd (Qb .neq 6 v35 (.int .i64 0)) fun v36 =>
 bnd (gua v36 true (QL t3) (some (.tup []))) fun v37 =>
 bnd (gua v36 true (QL t7) (some (.tup []))) fun v38 =>
 bnd (gua v36 true (Qx 6 v37 v38) (some (.tup []))) fun v39 =>
 bnd (gua v36 true (Qq v39 0) (some (.tup []))) fun v40 =>
 bnd (gua v36 true (Qc false 1 H v40) (some (.tup []))) fun v41 =>
 bnd (gua v36 true (Qb .neq 6 v41 (.int .i64 2)) (some (.tup []))) fun v42 =>
 bnd (QY v36 v42 (.bool false)) fun v43 =>
 cnd v43
 (bnd (Qx 6 t3 t7) fun v44 =>
 bnd (Qc true 6 H v44) fun v45 =>
 bcall (E E6 [t4,v45] H) (fun v46 h47 =>
 Gh O t2 t3 v46 t7 h47)
 (fun v46 h47 => pn false O v46 h47))
 (Gh O t2 t3 t4 t7 H))
 (bnd (QM t4) fun v49 =>
 bnd (Qb .eql 6 v49 (.int .i64 0)) fun v50 =>
 cnd v50
 (bnd (Zj [(.int .i64 0),(.int .u64 0),(.int .u64 0),(.int .u64 0),(.int .u64 0),.nils] [(0,1),(1,4),(5,1)] []) fun v51 =>
 beff (Qs O 6 H t2 v51) fun v52 h53 =>
 bnd (Qc true 6 h53 t2) fun v54 =>
 rt false O v54 h53)
 (bcall (E L2 [t4,(.int .i64 4)] H) (fun v55 h56 =>
 beff (Qs O 6 h56 t2 v55) fun v57 h58 =>
 bnd (Qc true 6 h58 t2) fun v59 =>
 rt false O v59 h58)
 (fun v55 h56 => pn false O v55 h56))) := (Za (cAt [1,1,1,1,1,1,0,1,0,0] ZG) ((Qe 2 ((Qg (fun _ t => YO O (cAt [1,1,1,1,1,1,1] ZG) (YA O) (Qf Jd (cAt [1,1,1,1,1,1,1] ZG) t)) (YA O))))) _ H []).trans (by kernel_rfl)
def A3 (O : Nat) (t2 t3 t4 : V) (H : Qa) : Option (Out × Qa) :=
YO O (cAt [1,1,1,1,1,1] ZG) (YA O) [(2,t2),(3,t3),(4,t4)] H []
theorem XE (O : Nat) (t2 t3 t4 : V) (H : Qa) : A3 O t2 t3 t4 H =
 Nr O t2 t3 t4 (.int .i64 0) H := by kernel_rfl
theorem Av (O : Nat) (t2 t3 t4 t5 t6 : V) (H : Qa) : Mw O t2 t3 t4 t5 t6 H =
 bnd (QM t3) fun v6 =>
 bnd (Qb .lss 6 t6 v6) fun v7 =>
 cnd v7
 (bnd (Qx 6 t3 t6) fun v8 =>
 bnd (Qq v8 0) fun v9 =>
 bnd (Qc false 1 H v9) fun v10 =>
 bnd (Qb .eql 6 v10 (.int .i64 2)) fun v11 =>
 cnd v11
 (bnd (Qc true 4 H t5) fun v12 =>
 bnd (Qx 6 t3 t6) fun v13 =>
 bnd (Qq v13 1) fun v14 =>
 bnd (Qc true 4 H v14) fun v15 =>
 bcall (E Ez [v12,v15] H) (fun v16 h17 =>
 beff (Qs O 4 h17 t5 v16) fun v18 h19 =>
 GC O t2 t3 t4 t5 t6 h19)
 (fun v16 h17 => pn false O v16 h17))
 (GC O t2 t3 t4 t5 t6 H))
 (bnd (Qc true 4 H t5) fun v21 =>
 bcall (E US [v21] H) (fun v22 h23 =>
 bnd (Qb .gtr 6 v22 (.int .i64 0)) fun v24 =>
 cnd v24
 (bnd (Qc true 4 h23 t5) fun v25 =>
 bcall (E Dw [v25] h23) (fun v26 h27 =>
 bnd (Zq 6 1 (.agg [(.int .i64 0),(.int .u64 0),(.int .u64 0),(.int .u64 0),(.int .u64 0),(.vs [])]) [(0,v26)]) fun v28 =>
 beff (Z1 O 6 64 true t4 v28 h27) fun v29 h30 =>
 A3 O t2 t3 v29 h30)
 (fun v26 h27 => pn false O v26 h27))
 (A3 O t2 t3 t4 h23))
 (fun v22 h23 => pn false O v22 h23)) := (Za (cAt [1,1,1,1,0,1,0,0] ZG) ((Qe 0 ((Qg (fun _ t => YO O (cAt [1,1,1,1,1] ZG) (YA O) (Qf Jd (cAt [1,1,1,1,1] ZG) t)) (YA O))))) _ H []).trans (by kernel_rfl)
def QaU (O : Nat) (t0 : V) (H : Qa) : Option (Out × Qa) := YO O ZG (YA O) [(0,t0)] H []
theorem QiN (O : Nat) (t0 : V) (H : Qa) : QaU O t0 H =
 beff (QD H (.agg [(.int .i64 0),(.int .u64 0),(.int .u64 0),(.int .u64 0),(.int .u64 0),.nils])) fun v0 h1 =>
 bcall (E Ge [t0,(.int .i64 4)] h1) (fun v2 h3 =>
 beff (QD h3 (.agg [(.int .u64 0),(.int .u64 0),(.int .u64 0),(.int .u64 0)])) fun v4 h5 =>
 Mw O v0 v2 .nils v4 (.int .i64 0) h5)
 (fun v2 h3 => pn false O v2 h3) := by kernel_rfl
theorem Qm9 (t0 : V) (H : Qa) : E V9 [t0] H = QaU H.length t0 H := (QR Tryd.func26 (by kernel_rfl) (by kernel_rfl) (by kernel_rfl)).trans (by kernel_rfl)
def Qjf : Code := QO Tryd.f27
def Qp0 : Ks := []
def QkT (O : Nat) : KC (Out × Qa) := QP Tryd.prog D false O 9 Tryd.f27.results.toList
def QmO (O : Nat) (c : Code) (k : KC (Out × Qa)) (t : Ts) (H : Qa) (d : Ds) : Option (Out × Qa) := xC Tryd.prog O true Qp0 E 9 c k t H d
def XT (O : Nat) (t0 t1 : V) (H : Qa) : Option (Out × Qa) := QmO O Qjf (QkT O) [(0,t0),(1,t1)] H []
theorem QpB (O : Nat) (t0 t1 : V) (H : Qa) : XT O t0 t1 H =
 bcall (E Ef [t0,t1] H) (fun v0 h1 =>
 bnd (Qb .geq 6 v0 (.int .i64 0)) fun v2 =>
 rt false O v2 h1)
 (fun v0 h1 => pn false O v0 h1) := by kernel_rfl
theorem QoX (t0 t1 : V) (H : Qa) : E Ul [t0,t1] H = XT H.length t0 t1 H := (QR Tryd.func27 (by kernel_rfl) (by kernel_rfl) (by kernel_rfl)).trans (by kernel_rfl)
def Qk5 : Code := QO Tryd.f28
def QoQ : Ks := []
def QiA (O : Nat) : KC (Out × Qa) := QP Tryd.prog D false O 6 Tryd.f28.results.toList
def Qns (O : Nat) (c : Code) (k : KC (Out × Qa)) (t : Ts) (H : Qa) (d : Ds) : Option (Out × Qa) := xC Tryd.prog O false QoQ E 6 c k t H d
def QeK (O : Nat) (t0 : V) (H : Qa) : Option (Out × Qa) := Qns O Qk5 (QiA O) [(0,t0)] H []
theorem Qpq (O : Nat) (t0 : V) (H : Qa) : QeK O t0 H =
 beff (QD H t0) fun v0 h1 =>
 bnd (Qc true 6 h1 v0) fun v2 =>
 bcall (E JH [v2] h1) (fun v3 h4 =>
 bnd (oUn .not v3) fun v5 =>
 rt false O v5 h4)
 (fun v3 h4 => pn false O v3 h4) := by kernel_rfl
theorem QkG (t0 : V) (H : Qa) : E N8 [t0] H = QeK H.length t0 H := (QR Tryd.func28 (by kernel_rfl) (by kernel_rfl) (by kernel_rfl)).trans (by kernel_rfl)
def Qku : Code := QO Tryd.f29
def Qk1 : Ks := []
def Qnc (O : Nat) : KC (Out × Qa) := QP Tryd.prog D false O 22 Tryd.f29.results.toList
def Qj1 (O : Nat) (c : Code) (k : KC (Out × Qa)) (t : Ts) (H : Qa) (d : Ds) : Option (Out × Qa) := xC Tryd.prog O false Qk1 E 22 c k t H d
def T0 (O : Nat) (t0 t1 : V) (H : Qa) : Option (Out × Qa) := Qj1 O Qku (Qnc O) [(0,t0),(1,t1)] H []
theorem QhM (O : Nat) (t0 t1 : V) (H : Qa) : T0 O t0 t1 H =
 beff (QD H t0) fun v0 h1 =>
 bnd (Qb .geq 6 t1 (.int .i64 0)) fun v2 =>
 bnd (gua v2 true (QL t1) (some (.tup []))) fun v3 =>
 bnd (gua v2 true (Qb .lss 6 v3 (.int .i64 256)) (some (.tup []))) fun v4 =>
 bnd (QY v2 v4 (.bool false)) fun v5 =>
 bnd (gua v5 true (QL t1) (some (.tup []))) fun v6 =>
 bnd (gua v5 true (Qb .quo 6 v6 (.int .i64 64)) (some (.tup []))) fun v7 =>
 bnd (gua v5 true (Wl 4 1 v0 v7) (some (.tup []))) fun v8 =>
 bnd (gua v5 true (Qc false 1 h1 v8) (some (.tup []))) fun v9 =>
 bnd (gua v5 true (QL t1) (some (.tup []))) fun v10 =>
 bnd (gua v5 true (Qb .rem 6 v10 (.int .i64 64)) (some (.tup []))) fun v11 =>
 bnd (gua v5 true (Qb .shl 6 (.int .u64 1) v11) (some (.tup []))) fun v12 =>
 bnd (gua v5 true (Qb .and 6 v9 v12) (some (.tup []))) fun v13 =>
 bnd (gua v5 true (Qb .neq 6 v13 (.int .u64 0)) (some (.tup []))) fun v14 =>
 bnd (QY v5 v14 (.bool false)) fun v15 =>
 rt false O v15 h1 := by kernel_rfl
theorem Qpe (t0 t1 : V) (H : Qa) : E DZ [t0,t1] H = T0 H.length t0 t1 H := (QR Tryd.func29 (by kernel_rfl) (by kernel_rfl) (by kernel_rfl)).trans (by kernel_rfl)
def K5 : Code := QO Tryd.f30
def F7 : Ks := [(3,[1,2,4,5,9,10,11]),(8,[4,5])]
def RA (O : Nat) : KC (Out × Qa) := QP Tryd.prog D false O 37 Tryd.f30.results.toList
def Mk (O : Nat) (c : Code) (k : KC (Out × Qa)) (t : Ts) (H : Qa) (d : Ds) : Option (Out × Qa) := xC Tryd.prog O false F7 E 37 c k t H d
def Pv (O : Nat) (t1 t2 t4 t5 t9 t10 t11 : V) (H : Qa) : Option (Out × Qa) :=
Qt (fun t H d again => Mk O (cAt [1,1,0,1,0,0] K5) (Ql F7 (cAt [1,1,0,1,0,0] K5) again ((Qe 0 ((Qg (fun _ t => Mk O (cAt [1,1,1] K5) (RA O) (Qf F7 (cAt [1,1,1] K5) t)) (RA O)))))) t H d) [(1,t1),(2,t2),(4,t4),(5,t5),(9,t9),(10,t10),(11,t11)] H []
def PF (O : Nat) (t4 t5 : V) (H : Qa) : Option (Out × Qa) :=
Mk O (cAt [1,1,1] K5) (RA O) [(4,t4),(5,t5)] H []
theorem Qob (O : Nat) (t4 t5 : V) (H : Qa) : PF O t4 t5 H =
 bcall (E Fl [t5] H) (fun v35 h36 =>
 beff (Qs O 6 h36 t4 v35) fun v37 h38 =>
 bnd (Qc true 6 h38 t4) fun v39 =>
 rt false O v39 h38)
 (fun v35 h36 => pn false O v35 h36) := by kernel_rfl
theorem Xm (O : Nat) (t1 t2 t4 t5 t9 t10 t11 : V) (H : Qa) : Pv O t1 t2 t4 t5 t9 t10 t11 H =
 bnd (Qb .lss 6 t11 t10) fun v7 =>
 cnd v7
 (bnd (Qx 6 t9 t11) fun v8 =>
 bnd (Qc true 6 H v8) fun v9 =>
 beff (QD H (.agg [(.int .i64 0),(.int .u64 0),(.int .u64 0),(.int .u64 0),(.int .u64 0),.nils])) fun v10 h11 =>
 beff (Qs O 6 h11 v10 v9) fun v12 h13 =>
 bnd (Qq t2 5) fun v14 =>
 bnd (Qc false 1 h13 v14) fun v15 =>
 bnd (Qb .add 6 t11 (.int .i64 1)) fun v16 =>
 bnd (JO 6 v15 (some v16) none none) fun v17 =>
 bcall (E Lw [v17] h13) (fun v18 h19 =>
 bnd (bnd (Qc true 6 h19 v10) fun v20 => sch (sam (Qc true 6 h13 v10) v20) (
 some v20)) fun v20 =>
 bcall (E Y5 [v20,t1] h19) (fun v21 h22 =>
 bnd (Zq 6 1 (.agg [(.int .i64 0),(.int .u64 0),(.int .u64 0),(.int .u64 0),(.int .u64 0),(.vs [])]) [(0,v21)]) fun v23 =>
 bcall (E Bt [v18,(.int .i64 0),v23] h22) (fun v24 h25 =>
 bcall (E PX [v24] h25) (fun v26 h27 =>
 bnd (Zq 6 1 (.agg [(.int .i64 0),(.int .u64 0),(.int .u64 0),(.int .u64 0),(.int .u64 0),(.vs [])]) [(0,v26)]) fun v28 =>
 beff (Z1 O 6 64 true t5 v28 h27) fun v29 h30 =>
 bnd (Qc true 6 h30 v10) fun v31 =>
 bcall (E JH [v31] h30) (fun v32 h33 =>
 bnd (oUn .not v32) fun v34 =>
 cnd v34
 (PF O t4 v29 h33)
 (bnd (Qb .add 6 t11 (.int .i64 1)) fun v40 =>
 Pv O t1 t2 t4 v29 t9 t10 v40 h33))
 (fun v32 h33 => pn false O v32 h33))
 (fun v26 h27 => pn false O v26 h27))
 (fun v24 h25 => pn false O v24 h25))
 (fun v21 h22 => pn false O v21 h22))
 (fun v18 h19 => sch (tlb (Qc true 6 h13 v10) fun v41 => tlb (QL t1) fun v42 => true) (pn false O v18 h19)))
 (PF O t4 t5 H) := (Za (cAt [1,1,0,1,0,0] K5) ((Qe 0 ((Qg (fun _ t => Mk O (cAt [1,1,1] K5) (RA O) (Qf F7 (cAt [1,1,1] K5) t)) (RA O))))) _ H []).trans (by kernel_rfl)
def QdM (O : Nat) (t0 t1 : V) (H : Qa) : Option (Out × Qa) := Mk O K5 (RA O) [(0,t0),(1,t1)] H []
theorem QpK (O : Nat) (t0 t1 : V) (H : Qa) : QdM O t0 t1 H =
 beff (QD H t0) fun v0 h1 =>
 beff (QD h1 (.agg [(.int .i64 0),(.int .u64 0),(.int .u64 0),(.int .u64 0),(.int .u64 0),.nils])) fun v2 h3 =>
 bnd (Qq v0 5) fun v4 =>
 bnd (Qc false 1 h3 v4) fun v5 =>
 bnd (QM v5) fun v6 =>
 Pv O t1 v0 v2 .nils v5 v6 (.int .i64 0) h3 := by kernel_rfl
theorem QnY (t0 t1 : V) (H : Qa) : E EC [t0,t1] H = QdM H.length t0 t1 H := (QR Tryd.func30 (by kernel_rfl) (by kernel_rfl) (by kernel_rfl)).trans (by kernel_rfl)
def VC : Code := QO Tryd.f31
def Gj : Ks := [(3,[1,4,5,13,14,15])]
def Mp (O : Nat) : KC (Out × Qa) := QP Tryd.prog D false O 29 Tryd.f31.results.toList
def PG (O : Nat) (c : Code) (k : KC (Out × Qa)) (t : Ts) (H : Qa) (d : Ds) : Option (Out × Qa) := xC Tryd.prog O false Gj E 29 c k t H d
def P8 (O : Nat) (t1 t4 t5 t13 t14 t15 : V) (H : Qa) : Option (Out × Qa) :=
Qt (fun t H d again => PG O (cAt [1,1,0,1,0,0] VC) (Ql Gj (cAt [1,1,0,1,0,0] VC) again ((Qe 0 ((Qg (fun _ t => PG O (cAt [1,1,1] VC) (Mp O) (Qf Gj (cAt [1,1,1] VC) t)) (Mp O)))))) t H d) [(1,t1),(4,t4),(5,t5),(13,t13),(14,t14),(15,t15)] H []
theorem QeZ (O : Nat) (t1 t4 t5 t13 t14 t15 : V) (H : Qa) : P8 O t1 t4 t5 t13 t14 t15 H =
 bnd (Qb .lss 6 t15 t14) fun v12 =>
 cnd v12
 (bnd (Qx 6 t13 t15) fun v13 =>
 bnd (Qc true 6 H v13) fun v14 =>
 beff (QD H (.agg [(.int .i64 0),(.int .u64 0),(.int .u64 0),(.int .u64 0),(.int .u64 0),.nils])) fun v15 h16 =>
 beff (Qs O 6 h16 v15 v14) fun v17 h18 =>
 bnd (Qc true 6 h18 v15) fun v19 =>
 bcall (E Y5 [v19,t1] h18) (fun v20 h21 =>
 bnd (Qx 6 t5 t15) fun v22 =>
 beff (Qs O 6 h21 v22 v20) fun v23 h24 =>
 bnd (Qb .add 6 t15 (.int .i64 1)) fun v25 =>
 P8 O t1 t4 t5 t13 t14 v25 h24)
 (fun v20 h21 => pn false O v20 h21))
 (bcall (E Fl [t5] H) (fun v26 h27 =>
 beff (Qs O 6 h27 t4 v26) fun v28 h29 =>
 bnd (Qc true 6 h29 t4) fun v30 =>
 rt false O v30 h29)
 (fun v26 h27 => pn false O v26 h27)) := (Za (cAt [1,1,0,1,0,0] VC) ((Qe 0 ((Qg (fun _ t => PG O (cAt [1,1,1] VC) (Mp O) (Qf Gj (cAt [1,1,1] VC) t)) (Mp O))))) _ H []).trans (by kernel_rfl)
def QdQ (O : Nat) (t0 t1 : V) (H : Qa) : Option (Out × Qa) := PG O VC (Mp O) [(0,t0),(1,t1)] H []
theorem Qil (O : Nat) (t0 t1 : V) (H : Qa) : QdQ O t0 t1 H =
 beff (QD H t0) fun v0 h1 =>
 beff (QD h1 (.agg [(.int .i64 0),(.int .u64 0),(.int .u64 0),(.int .u64 0),(.int .u64 0),.nils])) fun v2 h3 =>
 bnd (Qq v0 5) fun v4 =>
 bnd (Qc false 1 h3 v4) fun v5 =>
 bnd (QM v5) fun v6 =>
 beff (R5 6 true 64 [(.int .i64 0),(.int .u64 0),(.int .u64 0),(.int .u64 0),(.int .u64 0),.nils] v6 v6 h3) fun v7 h8 =>
 bnd (Qq v0 5) fun v9 =>
 bnd (Qc false 1 h8 v9) fun v10 =>
 bnd (QM v10) fun v11 =>
 P8 O t1 v2 v7 v10 v11 (.int .i64 0) h8 := by kernel_rfl
theorem Qp3 (t0 t1 : V) (H : Qa) : E EW [t0,t1] H = QdQ H.length t0 t1 H := (QR Tryd.func31 (by kernel_rfl) (by kernel_rfl) (by kernel_rfl)).trans (by kernel_rfl)
def QiD : Code := QO Tryd.f32
def QhH : Ks := []
def Qn0 (O : Nat) : KC (Out × Qa) := QP Tryd.prog D false O 13 Tryd.f32.results.toList
def Qms (O : Nat) (c : Code) (k : KC (Out × Qa)) (t : Ts) (H : Qa) (d : Ds) : Option (Out × Qa) := xC Tryd.prog O false QhH E 13 c k t H d
def QgF (O : Nat) (t0 : V) (H : Qa) : Option (Out × Qa) := Qms O QiD (Qn0 O) [(0,t0)] H []
theorem QlB (O : Nat) (t0 : V) (H : Qa) : QgF O t0 H =
 beff (QD H (.agg [(.int .i64 0),(.int .u64 0),(.int .u64 0),(.int .u64 0),(.int .u64 0),.nils])) fun v0 h1 =>
 bcall (E LR [t0,(.int .i64 3)] h1) (fun v2 h3 =>
 bcall (E BI [(.int .i64 0)] h3) (fun v4 h5 =>
 bcall (E Ul [v2,v4] h5) (fun v6 h7 =>
 cnd v6
 (bnd (Zj [(.int .i64 0),(.int .u64 0),(.int .u64 0),(.int .u64 0),(.int .u64 0),.nils] [(0,1),(1,4),(5,1)] [(0,(.int .i64 0))]) fun v8 =>
 beff (Qs O 6 h7 v0 v8) fun v9 h10 =>
 bnd (Qc true 6 h10 v0) fun v11 =>
 rt false O v11 h10)
 (bcall (E BI [(.int .i64 1)] h7) (fun v12 h13 =>
 bcall (E UU [v2,v12] h13) (fun v14 h15 =>
 bcall (E Fp [v14,(.int .i64 3),(.int .i64 1)] h15) (fun v16 h17 =>
 beff (Qs O 6 h17 v0 v16) fun v18 h19 =>
 bnd (Qc true 6 h19 v0) fun v20 =>
 rt false O v20 h19)
 (fun v16 h17 => pn false O v16 h17))
 (fun v14 h15 => pn false O v14 h15))
 (fun v12 h13 => pn false O v12 h13)))
 (fun v6 h7 => pn false O v6 h7))
 (fun v4 h5 => pn false O v4 h5))
 (fun v2 h3 => pn false O v2 h3) := by kernel_rfl
theorem QqS (t0 : V) (H : Qa) : E PX [t0] H = QgF H.length t0 H := (QR Tryd.func32 (by kernel_rfl) (by kernel_rfl) (by kernel_rfl)).trans (by kernel_rfl)
def Qn1 : Code := QO Tryd.f33
def Qo3 : Ks := []
def Qog (O : Nat) : KC (Out × Qa) := QP Tryd.prog D false O 22 Tryd.f33.results.toList
def QpF (O : Nat) (c : Code) (k : KC (Out × Qa)) (t : Ts) (H : Qa) (d : Ds) : Option (Out × Qa) := xC Tryd.prog O false Qo3 E 22 c k t H d
def QaG (O : Nat) (t0 t1 : V) (H : Qa) : Option (Out × Qa) := QpF O Qn1 (Qog O) [(0,t0),(1,t1)] H []
theorem Ey (O : Nat) (t0 t1 : V) (H : Qa) : QaG O t0 t1 H =
 beff (QD H t0) fun v0 h1 =>
 bnd (Qb .geq 6 t1 (.int .i64 0)) fun v2 =>
 bnd (gua v2 true (QL t1) (some (.tup []))) fun v3 =>
 bnd (gua v2 true (Qb .lss 6 v3 (.int .i64 256)) (some (.tup []))) fun v4 =>
 bnd (QY v2 v4 (.bool false)) fun v5 =>
 bnd (gua v5 true (QL t1) (some (.tup []))) fun v6 =>
 bnd (gua v5 true (Qb .quo 6 v6 (.int .i64 64)) (some (.tup []))) fun v7 =>
 bnd (gua v5 true (Wl 4 1 v0 v7) (some (.tup []))) fun v8 =>
 bnd (gua v5 true (Qc false 1 h1 v8) (some (.tup []))) fun v9 =>
 bnd (gua v5 true (QL t1) (some (.tup []))) fun v10 =>
 bnd (gua v5 true (Qb .rem 6 v10 (.int .i64 64)) (some (.tup []))) fun v11 =>
 bnd (gua v5 true (Qb .shr 6 v9 v11) (some (.tup []))) fun v12 =>
 bnd (gua v5 true (Qb .and 6 v12 (.int .u64 1)) (some (.tup []))) fun v13 =>
 bnd (gua v5 true (Qb .eql 6 v13 (.int .u64 1)) (some (.tup []))) fun v14 =>
 bnd (QY v5 v14 (.bool false)) fun v15 =>
 rt false O v15 h1 := by kernel_rfl
theorem Xe (t0 t1 : V) (H : Qa) : E Vy [t0,t1] H = QaG H.length t0 t1 H := (QR Tryd.func33 (by kernel_rfl) (by kernel_rfl) (by kernel_rfl)).trans (by kernel_rfl)
end
end Go.Proofs.YtdnmpaielmfiiaaDoor
end
