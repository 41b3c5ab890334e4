/- Fn1: a part of the proof that each law of this seat answers true at every input. No condition. -/
import Derived.Test.YtdnmpaielmfiiaaDoorHint
import Derived.KernelRfl
set_option linter.unusedVariables false
set_option linter.unusedSimpArgs false
set_option maxRecDepth 20000
section
namespace Go.Proofs.YtdnmpaielmfiiaaDoor
open Go Go.Ev
noncomputable section
def W5 : Code := QO Tryd.f4
def GO : Ks := [(4,[5,6,7])]
def MP (base : Nat) : KC (Out × Qa) := QP Tryd.prog D false base 45 Tryd.f4.results.toList
def FH (base : Nat) (c : Code) (k : KC (Out × Qa)) (t : Ts) (H : Qa) (d : Ds) : Option (Out × Qa) := xC Tryd.prog base false GO E 45 c k t H d
def Gm (base : Nat) (t5 t6 t7 : V) (H : Qa) : Option (Out × Qa) :=
Qt (fun t H d again => FH base (cAt [1,1,1,0,1,0,0] W5) (Ql GO (cAt [1,1,1,0,1,0,0] W5) again ((Qe 0 ((Qg (fun _ t => FH base (cAt [1,1,1,1] W5) (MP base) (Qf GO (cAt [1,1,1,1] W5) t)) (MP base)))))) t H d) [(5,t5),(6,t6),(7,t7)] H []
theorem QgU (base : Nat) (t5 t6 t7 : V) (H : Qa) : Gm base t5 t6 t7 H =
 bnd (Us t6) fun v8 =>
 bnd (Qb .lss 6 t7 v8) fun v9 =>
 cnd v9
 (bnd (Qc true 6 H t5) fun v10 =>
 bnd (KE t6 t7) fun v11 =>
 bnd (Yc .i64 v11) fun v12 =>
 bcall (E Y5 [v10,v12] H) (fun v13 h14 =>
 bnd (Qc true 6 h14 t5) fun v15 =>
 sch (sam (Qc true 6 H t5) v15) (
 bnd (KE t6 t7) fun v16 =>
 bnd (Yc .i64 v16) fun v17 =>
 bcall (E Wk [v15,v17] h14) (fun v18 h19 =>
 beff (QD h19 (.agg [(.int .i64 0),(.int .u64 0),(.int .u64 0),(.int .u64 0),(.int .u64 0),.nils])) fun v20 h21 =>
 sch (sam (Qc true 6 h21 t5) v15) (
 sch (sam (Qc true 6 h21 t5) v10) (
 beff (QD h21 (.agg [(.int .i64 0),(.int .u64 0),(.int .u64 0),(.int .u64 0),(.int .u64 0),.nils])) fun v22 h23 =>
 sch (sam (Qc true 6 h23 t5) v15) (
 sch (sam (Qc true 6 h23 t5) v10) (
 beff (Qs base 6 h23 v20 v13) fun v24 h25 =>
 beff (Qs base 6 h25 v22 v18) fun v26 h27 =>
 bnd (Qc true 6 h27 v20) fun v28 =>
 bnd (Qc true 6 h27 v22) fun v29 =>
 bcall (E Jv [v28,v29] h27) (fun v30 h31 =>
 bnd (oUn .not v30) fun v32 =>
 bnd (gua v32 false (Qc true 6 h31 v20) (some (.tup []))) fun v33 =>
 bcall (gua v32 false (E JH [v33] h31) (some (.ret (.tup []),h31))) (fun v34 h35 =>
 bnd (gua v32 false (bnd (Qc true 6 h35 v22) fun v36 => sch (sam (Qc true 6 h31 v22) v36) (
 some v36)) (some (.tup []))) fun v36 =>
 bcall (gua v32 false (E Wj [v36] h35) (some (.ret (.tup []),h35))) (fun v37 h38 =>
 bnd (gua v32 false (Qb .neq 0 v34 v37) (some (.tup []))) fun v39 =>
 bnd (QY v32 (.bool true) v39) fun v40 =>
 cnd v40
 (rt false base (.bool false) h38)
 (bnd (Qc true 6 h38 v20) fun v41 =>
 beff (Qs base 6 h38 t5 v41) fun v42 h43 =>
 bnd (Qb .add 6 t7 (.int .i64 1)) fun v44 =>
 Gm base t5 t6 v44 h43))
 (fun v37 h38 => pn false base v37 h38))
 (fun v34 h35 => sch (tlb (gua v32 false (Qc true 6 h31 v22) (some (.tup []))) fun v45 => true) (pn false base v34 h35)))
 (fun v30 h31 => pn false base v30 h31))))))
 (fun v18 h19 => sch (false) (pn false base v18 h19))))
 (fun v13 h14 => sch (tlb (Qc true 6 H t5) fun v47 => tlb (QL t6) fun v48 => tlb (QL t7) fun v49 => tlb (KE v48 v49) fun v50 => tlb (Yc .i64 v50) fun v51 => false) (pn false base v13 h14)))
 (bcall (E Nk [] H) (fun v53 h54 =>
 rt false base v53 h54)
 (fun v53 h54 => pn false base v53 h54)) := (Za (cAt [1,1,1,0,1,0,0] W5) ((Qe 0 ((Qg (fun _ t => FH base (cAt [1,1,1,1] W5) (MP base) (Qf GO (cAt [1,1,1,1] W5) t)) (MP base))))) _ H []).trans (by kernel_rfl)
def QgX (base : Nat) (t0 t1 : V) (H : Qa) : Option (Out × Qa) := FH base W5 (MP base) [(0,t0),(1,t1)] H []
theorem Qlv (base : Nat) (t0 t1 : V) (H : Qa) : QgX base t0 t1 H =
 bcall (E MX [t0,(.int .i64 0)] H) (fun v0 h1 =>
 beff (QD h1 (.agg [(.int .i64 0),(.int .u64 0),(.int .u64 0),(.int .u64 0),(.int .u64 0),.nils])) fun v2 h3 =>
 beff (Qs base 6 h3 v2 v0) fun v4 h5 =>
 bcall (E VU [t1,(.int .i64 5)] h5) (fun v6 h7 =>
 Gm base v2 v6 (.int .i64 0) h7)
 (fun v6 h7 => pn false base v6 h7))
 (fun v0 h1 => pn false base v0 h1) := by kernel_rfl
theorem Qla (t0 t1 : V) (H : Qa) : E QcS [t0,t1] H = QgX H.length t0 t1 H := (QR Tryd.func4 (by kernel_rfl) (by kernel_rfl) (by kernel_rfl)).trans (by kernel_rfl)
def QmG : Code := QO Tryd.f7
def Qiu : Ks := []
def QkW (base : Nat) : KC (Out × Qa) := QP Tryd.prog D false base 46 Tryd.f7.results.toList
def Qnn (base : Nat) (c : Code) (k : KC (Out × Qa)) (t : Ts) (H : Qa) (d : Ds) : Option (Out × Qa) := xC Tryd.prog base false Qiu E 46 c k t H d
def Qc4 (base : Nat) (t0 t1 t2 : V) (H : Qa) : Option (Out × Qa) := Qnn base QmG (QkW base) [(0,t0),(1,t1),(2,t2)] H []
theorem Qh8 (base : Nat) (t0 t1 t2 : V) (H : Qa) : Qc4 base t0 t1 t2 H =
 bcall (E Nk [] H) (fun v0 h1 =>
 bnd (oUn .not v0) fun v2 =>
 cnd v2
 (rt false base (.bool false) h1)
 (bcall (E MX [t0,(.int .i64 0)] h1) (fun v3 h4 =>
 beff (QD h4 (.agg [(.int .i64 0),(.int .u64 0),(.int .u64 0),(.int .u64 0),(.int .u64 0),.nils])) fun v5 h6 =>
 beff (Qs base 6 h6 v5 v3) fun v7 h8 =>
 bcall (E VU [t2,(.int .i64 5)] h8) (fun v9 h10 =>
 bnd (Yc .i64 t1) fun v11 =>
 bnd (Qb .rem 6 v11 (.int .i64 4)) fun v12 =>
 bnd (Qb .add 6 (.int .i64 97) v12) fun v13 =>
 bnd (gua v0 true (Qc true 6 h10 v5) (some (.tup []))) fun v14 =>
 bnd (gua v0 true (QL v13) (some (.tup []))) fun v15 =>
 bcall (gua v0 true (E Y5 [v14,v15] h10) (some (.ret (.tup []),h10))) (fun v16 h17 =>
 bnd (gua v0 true (QL v9) (some (.tup []))) fun v18 =>
 bcall (gua v0 true (E UO [v16,v18] h17) (some (.ret (.tup []),h17))) (fun v19 h20 =>
 bnd (gua v0 true (bnd (Qc true 6 h20 v5) fun v21 => sch (sam (Qc true 6 h17 v5) v21) (
 sch (sam (Qc true 6 h10 v5) v21) (
 some v21))) (some (.tup []))) fun v21 =>
 bnd (gua v0 true (QL v13) (some (.tup []))) fun v22 =>
 bnd (gua v0 true (Yc .u8 v22) (some (.tup []))) fun v23 =>
 bnd (gua v0 true (Zq 1 1 (.int .u8 0) [(0,v23)]) (some (.tup []))) fun v24 =>
 bnd (gua v0 true (bnd (JV h20 v24) fun v25 => sch (sam (JV h17 v24) v25) (
 sch (sam (JV h10 v24) v25) (
 some v25))) (some (.tup []))) fun v25 =>
 bnd (gua v0 true (QL v9) (some (.tup []))) fun v26 =>
 bnd (gua v0 true (Qb .add 6 v25 v26) (some (.tup []))) fun v27 =>
 bcall (gua v0 true (E UO [v21,v27] h20) (some (.ret (.tup []),h20))) (fun v28 h29 =>
 bnd (gua v0 true (Qb .eql 0 v19 v28) (some (.tup []))) fun v30 =>
 bnd (QY v0 v30 (.bool false)) fun v31 =>
 bnd (gua v31 true (Qc true 6 h29 v5) (some (.tup []))) fun v32 =>
 bcall (gua v31 true (E UO [v32,(.str [])] h29) (some (.ret (.tup []),h29))) (fun v33 h34 =>
 bnd (gua v31 true (bnd (Qc true 6 h34 v5) fun v35 => sch (sam (Qc true 6 h29 v5) v35) (
 some v35)) (some (.tup []))) fun v35 =>
 bcall (gua v31 true (E JH [v35] h34) (some (.ret (.tup []),h34))) (fun v36 h37 =>
 bnd (gua v31 true (Qb .eql 0 v33 v36) (some (.tup []))) fun v38 =>
 bnd (QY v31 v38 (.bool false)) fun v39 =>
 rt false base v39 h37)
 (fun v36 h37 => pn false base v36 h37))
 (fun v33 h34 => sch (tlb (gua v31 true (Qc true 6 h29 v5) (some (.tup []))) fun v40 => true) (pn false base v33 h34)))
 (fun v28 h29 => pn false base v28 h29))
 (fun v19 h20 => sch (tlb (gua v0 true (bnd (Qc true 6 h17 v5) fun v41 => sch (sam (Qc true 6 h10 v5) v41) (some v41)) (some (.tup []))) fun v41 => tlb (gua v0 true (QL v13) (some (.tup []))) fun v42 => tlb (gua v0 true (Yc .u8 v42) (some (.tup []))) fun v43 => tlb (gua v0 true (Zq 1 1 (.int .u8 0) [(0,v43)]) (some (.tup []))) fun v44 => tlb (gua v0 true (bnd (JV h17 v44) fun v45 => sch (sam (JV h10 v44) v45) (some v45)) (some (.tup []))) fun v45 => tlb (gua v0 true (QL v9) (some (.tup []))) fun v46 => tlb (gua v0 true (Qb .add 6 v45 v46) (some (.tup []))) fun v47 => true) (pn false base v19 h20)))
 (fun v16 h17 => sch (tlb (gua v0 true (QL v9) (some (.tup []))) fun v48 => tlb (gua v0 true (Qc true 6 h10 v5) (some (.tup []))) fun v49 => tlb (gua v0 true (QL v13) (some (.tup []))) fun v50 => tlb (gua v0 true (Yc .u8 v50) (some (.tup []))) fun v51 => tlb (gua v0 true (Zq 1 1 (.int .u8 0) [(0,v51)]) (some (.tup []))) fun v52 => tlb (gua v0 true (JV h10 v52) (some (.tup []))) fun v53 => tlb (gua v0 true (QL v9) (some (.tup []))) fun v54 => tlb (gua v0 true (Qb .add 6 v53 v54) (some (.tup []))) fun v55 => true) (pn false base v16 h17)))
 (fun v9 h10 => pn false base v9 h10))
 (fun v3 h4 => pn false base v3 h4)))
 (fun v0 h1 => pn false base v0 h1) := by kernel_rfl
theorem Qjj (t0 t1 t2 : V) (H : Qa) : E QgH [t0,t1,t2] H = Qc4 H.length t0 t1 t2 H := (QR Tryd.func7 (by kernel_rfl) (by kernel_rfl) (by kernel_rfl)).trans (by kernel_rfl)
def V2 : Code := QO Tryd.f8
def LW : Ks := [(7,[5,6,7,8])]
def Mx (base : Nat) : KC (Out × Qa) := QP Tryd.prog D false base 32 Tryd.f8.results.toList
def Gk (base : Nat) (c : Code) (k : KC (Out × Qa)) (t : Ts) (H : Qa) (d : Ds) : Option (Out × Qa) := xC Tryd.prog base false LW E 32 c k t H d
def Lv (base : Nat) (t5 t6 t7 t8 : V) (H : Qa) : Option (Out × Qa) :=
Qt (fun t H d again => Gk base (cAt [1,1,1,1,1,0,1,0,0] V2) (Ql LW (cAt [1,1,1,1,1,0,1,0,0] V2) again ((Qe 0 ((Qg (fun _ t => Gk base (cAt [1,1,1,1,1,1] V2) (Mx base) (Qf LW (cAt [1,1,1,1,1,1] V2) t)) (Mx base)))))) t H d) [(5,t5),(6,t6),(7,t7),(8,t8)] H []
theorem QgI (base : Nat) (t5 t6 t7 t8 : V) (H : Qa) : Lv base t5 t6 t7 t8 H =
 bnd (Us t7) fun v11 =>
 bnd (Qb .lss 6 t8 v11) fun v12 =>
 cnd v12
 (bnd (Qc true 6 H t6) fun v13 =>
 bnd (KE t7 t8) fun v14 =>
 bnd (Yc .i64 v14) fun v15 =>
 bcall (E Y5 [v13,v15] H) (fun v16 h17 =>
 beff (Qs base 6 h17 t6 v16) fun v18 h19 =>
 bnd (Qc true 6 h19 t6) fun v20 =>
 bcall (E U6 [v20] h19) (fun v21 h22 =>
 bnd (oUn .not v21) fun v23 =>
 cnd v23
 (rt false base (.bool false) h22)
 (bnd (Qb .add 6 t8 (.int .i64 1)) fun v24 =>
 Lv base t5 t6 t7 v24 h22))
 (fun v21 h22 => pn false base v21 h22))
 (fun v16 h17 => pn false base v16 h17))
 (rt false base t5 H) := (Za (cAt [1,1,1,1,1,0,1,0,0] V2) ((Qe 0 ((Qg (fun _ t => Gk base (cAt [1,1,1,1,1,1] V2) (Mx base) (Qf LW (cAt [1,1,1,1,1,1] V2) t)) (Mx base))))) _ H []).trans (by kernel_rfl)
def XJ (base : Nat) (t0 t1 : V) (H : Qa) : Option (Out × Qa) := Gk base V2 (Mx base) [(0,t0),(1,t1)] H []
theorem Qqw (base : Nat) (t0 t1 : V) (H : Qa) : XJ base t0 t1 H =
 bcall (E Nk [] H) (fun v0 h1 =>
 bnd (oUn .not v0) fun v2 =>
 cnd v2
 (rt false base (.bool false) h1)
 (bcall (E MX [t0,(.int .i64 0)] h1) (fun v3 h4 =>
 beff (QD h4 (.agg [(.int .i64 0),(.int .u64 0),(.int .u64 0),(.int .u64 0),(.int .u64 0),.nils])) fun v5 h6 =>
 beff (Qs base 6 h6 v5 v3) fun v7 h8 =>
 bcall (E VU [t1,(.int .i64 4)] h8) (fun v9 h10 =>
 Lv base v0 v5 v9 (.int .i64 0) h10)
 (fun v9 h10 => pn false base v9 h10))
 (fun v3 h4 => pn false base v3 h4)))
 (fun v0 h1 => pn false base v0 h1) := by kernel_rfl
theorem Qj5 (t0 t1 : V) (H : Qa) : E Xu [t0,t1] H = XJ H.length t0 t1 H := (QR Tryd.func8 (by kernel_rfl) (by kernel_rfl) (by kernel_rfl)).trans (by kernel_rfl)
def Qpw : Code := QO Tryd.f12
def Qkd : Ks := []
def QpA (base : Nat) : KC (Out × Qa) := QP Tryd.prog D false base 42 Tryd.f12.results.toList
def Qpu (base : Nat) (c : Code) (k : KC (Out × Qa)) (t : Ts) (H : Qa) (d : Ds) : Option (Out × Qa) := xC Tryd.prog base false Qkd E 42 c k t H d
def QhD (base : Nat) (H : Qa) : Option (Out × Qa) := Qpu base Qpw (QpA base) [] H []
theorem Qp8 (base : Nat) (H : Qa) : QhD base  H =
 bcall (E BH [(.int .i64 97),(.int .i64 97)] H) (fun v0 h1 =>
 bnd (Zj [(.int .i64 0),(.int .u64 0),(.int .u64 0),(.int .u64 0),(.int .u64 0),.nils] [(0,1),(1,4),(5,1)] [(0,(.int .i64 2)),(1,v0)]) fun v2 =>
 bcall (E BH [(.int .i64 98),(.int .i64 98)] h1) (fun v3 h4 =>
 bnd (Zj [(.int .i64 0),(.int .u64 0),(.int .u64 0),(.int .u64 0),(.int .u64 0),.nils] [(0,1),(1,4),(5,1)] [(0,(.int .i64 2)),(1,v3)]) fun v5 =>
 beff (QD h4 (.agg [(.int .i64 0),(.int .u64 0),(.int .u64 0),(.int .u64 0),(.int .u64 0),.nils])) fun v6 h7 =>
 beff (QD h7 (.agg [(.int .i64 0),(.int .u64 0),(.int .u64 0),(.int .u64 0),(.int .u64 0),.nils])) fun v8 h9 =>
 beff (Qs base 6 h9 v6 v2) fun v10 h11 =>
 beff (Qs base 6 h11 v8 v5) fun v12 h13 =>
 bnd (Qc true 6 h13 v6) fun v14 =>
 bcall (E WI [v14] h13) (fun v15 h16 =>
 bnd (Qc true 6 h16 v8) fun v17 =>
 sch (sam (Qc true 6 h13 v8) v17) (
 bnd (Zq 6 2 (.agg [(.int .i64 0),(.int .u64 0),(.int .u64 0),(.int .u64 0),(.int .u64 0),(.vs [])]) [(0,v15),(1,v17)]) fun v18 =>
 bcall (E Vi [v18] h16) (fun v19 h20 =>
 beff (QD h20 (.agg [(.int .i64 0),(.int .u64 0),(.int .u64 0),(.int .u64 0),(.int .u64 0),.nils])) fun v21 h22 =>
 sch (sam (Qc true 6 h22 v8) v17) (
 sch (sam (Qc true 6 h22 v6) v14) (
 beff (Qs base 6 h22 v21 v19) fun v23 h24 =>
 bnd (Qc true 6 h24 v21) fun v25 =>
 bcall (E Y5 [v25,(.int .i64 97)] h24) (fun v26 h27 =>
 bnd (bnd (Qc true 6 h27 v21) fun v28 => sch (sam (Qc true 6 h24 v21) v28) (
 some v28)) fun v28 =>
 bcall (E Jv [v26,v28] h27) (fun v29 h30 =>
 bnd (gua v29 true (Qc true 6 h30 v21) (some (.tup []))) fun v31 =>
 bcall (gua v29 true (E Y5 [v31,(.int .i64 98)] h30) (some (.ret (.tup []),h30))) (fun v32 h33 =>
 bnd (gua v29 true (F8 0 false 1 v32) (some (.tup []))) fun v34 =>
 bnd (gua v29 true (Qb .eql 6 v34 (.int .i64 1)) (some (.tup []))) fun v35 =>
 bnd (QY v29 v35 (.bool false)) fun v36 =>
 bnd (gua v36 true (Qc true 6 h33 v21) (some (.tup []))) fun v37 =>
 bcall (gua v36 true (E JH [v37] h33) (some (.ret (.tup []),h33))) (fun v38 h39 =>
 bnd (gua v36 true (oUn .not v38) (some (.tup []))) fun v40 =>
 bnd (QY v36 v40 (.bool false)) fun v41 =>
 bnd (gua v41 true (Qc true 6 h39 v21) (some (.tup []))) fun v42 =>
 bcall (gua v41 true (E UO [v42,(.str [97,97,98])] h39) (some (.ret (.tup []),h39))) (fun v43 h44 =>
 bnd (QY v41 v43 (.bool false)) fun v45 =>
 bnd (gua v45 true (Qc true 6 h44 v21) (some (.tup []))) fun v46 =>
 bcall (gua v45 true (E UO [v46,(.str [97,98,97])] h44) (some (.ret (.tup []),h44))) (fun v47 h48 =>
 bnd (gua v45 true (oUn .not v47) (some (.tup []))) fun v49 =>
 bnd (QY v45 v49 (.bool false)) fun v50 =>
 bnd (gua v50 true (Qc true 6 h48 v6) (some (.tup []))) fun v51 =>
 bcall (gua v50 true (E WI [v51] h48) (some (.ret (.tup []),h48))) (fun v52 h53 =>
 bcall (gua v50 true (E JH [v52] h53) (some (.ret (.tup []),h53))) (fun v54 h55 =>
 bnd (QY v50 v54 (.bool false)) fun v56 =>
 rt false base v56 h55)
 (fun v54 h55 => pn false base v54 h55))
 (fun v52 h53 => pn false base v52 h53))
 (fun v47 h48 => pn false base v47 h48))
 (fun v43 h44 => pn false base v43 h44))
 (fun v38 h39 => pn false base v38 h39))
 (fun v32 h33 => pn false base v32 h33))
 (fun v29 h30 => pn false base v29 h30))
 (fun v26 h27 => sch (tlb (Qc true 6 h24 v21) fun v57 => true) (pn false base v26 h27)))))
 (fun v19 h20 => sch (false) (pn false base v19 h20))))
 (fun v15 h16 => sch (tlb (Qc true 6 h13 v8) fun v59 => false) (pn false base v15 h16)))
 (fun v3 h4 => pn false base v3 h4))
 (fun v0 h1 => pn false base v0 h1) := by kernel_rfl
theorem Qo1 (H : Qa) : E Nk [] H = QhD H.length  H := (QR Tryd.func12 (by kernel_rfl) (by kernel_rfl) (by kernel_rfl)).trans (by kernel_rfl)
def X6 : Code := QO Tryd.f13
def Qjx : Ks := [(9,[])]
def TE (base : Nat) : KC (Out × Qa) := QP Tryd.prog D false base 19 Tryd.f13.results.toList
def XD (base : Nat) (c : Code) (k : KC (Out × Qa)) (t : Ts) (H : Qa) (d : Ds) : Option (Out × Qa) := xC Tryd.prog base false Qjx E 19 c k t H d
def G6 (base : Nat) (H : Qa) : Option (Out × Qa) :=
XD base (cAt [1,1] X6) (TE base) [] H []
theorem QlR (base : Nat) (H : Qa) : G6 base  H =
 rt false base (.bool false) H := by kernel_rfl
def Qc5 (base : Nat) (t0 : V) (H : Qa) : Option (Out × Qa) := XD base X6 (TE base) [(0,t0)] H []
theorem QiX (base : Nat) (t0 : V) (H : Qa) : Qc5 base t0 H =
 beff (QD H t0) fun v0 h1 =>
 bnd (Qq v0 0) fun v2 =>
 bnd (Qc false 1 h1 v2) fun v3 =>
 bnd (Qb .eql 6 v3 (.int .i64 1)) fun v4 =>
 cnd v4
 (cnd v4
 (rt false base (.bool true) h1)
 (bnd (Qb .eql 6 v3 (.int .i64 3)) fun v5 =>
 cnd v5
 (bnd (Qq v0 5) fun v6 =>
 bnd (Qc false 1 h1 v6) fun v7 =>
 bcall (E Ul [v7,(.fn N8 [])] h1) (fun v8 h9 =>
 bnd (oUn .not v8) fun v10 =>
 rt false base v10 h9)
 (fun v8 h9 => pn false base v8 h9))
 (bnd (Qb .eql 6 v3 (.int .i64 4)) fun v11 =>
 cnd v11
 (bnd (Qq v0 5) fun v12 =>
 bnd (Qc false 1 h1 v12) fun v13 =>
 bcall (E Ul [v13,(.fn JH [])] h1) (fun v14 h15 =>
 rt false base v14 h15)
 (fun v14 h15 => pn false base v14 h15))
 (G6 base  h1))))
 (bnd (Qb .eql 6 v3 (.int .i64 5)) fun v16 =>
 cnd v16
 (rt false base (.bool true) h1)
 (bnd (Qb .eql 6 v3 (.int .i64 3)) fun v17 =>
 cnd v17
 (bnd (Qq v0 5) fun v18 =>
 bnd (Qc false 1 h1 v18) fun v19 =>
 bcall (E Ul [v19,(.fn N8 [])] h1) (fun v20 h21 =>
 bnd (oUn .not v20) fun v22 =>
 rt false base v22 h21)
 (fun v20 h21 => pn false base v20 h21))
 (bnd (Qb .eql 6 v3 (.int .i64 4)) fun v23 =>
 cnd v23
 (bnd (Qq v0 5) fun v24 =>
 bnd (Qc false 1 h1 v24) fun v25 =>
 bcall (E Ul [v25,(.fn JH [])] h1) (fun v26 h27 =>
 rt false base v26 h27)
 (fun v26 h27 => pn false base v26 h27))
 (G6 base  h1)))) := by kernel_rfl
theorem Qow (t0 : V) (H : Qa) : E JH [t0] H = Qc5 H.length t0 H := (QR Tryd.func13 (by kernel_rfl) (by kernel_rfl) (by kernel_rfl)).trans (by kernel_rfl)
def Z9 : Code := QO Tryd.f14
def J9 : Ks := [(7,[1,3]),(14,[1,4]),(18,[])]
def Jp (base : Nat) : KC (Out × Qa) := QP Tryd.prog D false base 41 Tryd.f14.results.toList
def JQ (base : Nat) (c : Code) (k : KC (Out × Qa)) (t : Ts) (H : Qa) (d : Ds) : Option (Out × Qa) := xC Tryd.prog base false J9 E 41 c k t H d
def RF (base : Nat) (t1 t3 : V) (H : Qa) : Option (Out × Qa) :=
Qt (fun t H d again => JQ base (cAt [1,0,1,0,1,1,1,0,0,1,0,0] Z9) (Ql J9 (cAt [1,0,1,0,1,1,1,0,0,1,0,0] Z9) again ((Qe 1 ((Qg (fun _ t => JQ base (cAt [1,0,1,0,1,1,1,0,1] Z9) ((Qe 0 ((Qg (fun _ t => JQ base (cAt [1,1] Z9) (Jp base) (Qf J9 (cAt [1,1] Z9) t)) (Jp base))))) (Qf J9 (cAt [1,0,1,0,1,1,1,0,1] Z9) t)) ((Qe 0 ((Qg (fun _ t => JQ base (cAt [1,1] Z9) (Jp base) (Qf J9 (cAt [1,1] Z9) t)) (Jp base)))))))))) t H d) [(1,t1),(3,t3)] H []
theorem QgW (base : Nat) (t1 t3 : V) (H : Qa) : RF base t1 t3 H =
 bnd (Qq t1 5) fun v6 =>
 bnd (Qc false 1 H v6) fun v7 =>
 bnd (QM v7) fun v8 =>
 bnd (Qb .lss 6 t3 v8) fun v9 =>
 cnd v9
 (bnd (Qq t1 5) fun v10 =>
 bnd (Qc false 1 H v10) fun v11 =>
 bnd (Qx 6 v11 t3) fun v12 =>
 bnd (Qc true 6 H v12) fun v13 =>
 bcall (E Wj [v13] H) (fun v14 h15 =>
 bnd (oUn .not v14) fun v16 =>
 cnd v16
 (rt false base (.bool false) h15)
 (bnd (Qb .add 6 t3 (.int .i64 1)) fun v17 =>
 RF base t1 v17 h15))
 (fun v14 h15 => pn false base v14 h15))
 (rt false base (.bool true) H) := (Za (cAt [1,0,1,0,1,1,1,0,0,1,0,0] Z9) ((Qe 1 ((Qg (fun _ t => JQ base (cAt [1,0,1,0,1,1,1,0,1] Z9) ((Qe 0 ((Qg (fun _ t => JQ base (cAt [1,1] Z9) (Jp base) (Qf J9 (cAt [1,1] Z9) t)) (Jp base))))) (Qf J9 (cAt [1,0,1,0,1,1,1,0,1] Z9) t)) ((Qe 0 ((Qg (fun _ t => JQ base (cAt [1,1] Z9) (Jp base) (Qf J9 (cAt [1,1] Z9) t)) (Jp base))))))))) _ H []).trans (by kernel_rfl)
def Li (base : Nat) (t1 t4 : V) (H : Qa) : Option (Out × Qa) :=
Qt (fun t H d again => JQ base (cAt [1,0,1,0,1,1,1,1,1,0,1,0,0] Z9) (Ql J9 (cAt [1,0,1,0,1,1,1,1,1,0,1,0,0] Z9) again ((Qe 3 ((Qe 0 ((Qg (fun _ t => JQ base (cAt [1,1] Z9) (Jp base) (Qf J9 (cAt [1,1] Z9) t)) (Jp base)))))))) t H d) [(1,t1),(4,t4)] H []
def NR (base : Nat) (H : Qa) : Option (Out × Qa) :=
JQ base (cAt [1,1] Z9) (Jp base) [] H []
theorem Qc1 (base : Nat) (H : Qa) : NR base  H =
 rt false base (.bool false) H := by kernel_rfl
theorem QdK (base : Nat) (t1 t4 : V) (H : Qa) : Li base t1 t4 H =
 bnd (Qq t1 5) fun v19 =>
 bnd (Qc false 1 H v19) fun v20 =>
 bnd (QM v20) fun v21 =>
 bnd (Qb .lss 6 t4 v21) fun v22 =>
 cnd v22
 (bnd (Qq t1 5) fun v23 =>
 bnd (Qc false 1 H v23) fun v24 =>
 bnd (Qx 6 v24 t4) fun v25 =>
 bnd (Qc true 6 H v25) fun v26 =>
 bcall (E Wj [v26] H) (fun v27 h28 =>
 cnd v27
 (rt false base (.bool true) h28)
 (bnd (Qb .add 6 t4 (.int .i64 1)) fun v29 =>
 Li base t1 v29 h28))
 (fun v27 h28 => pn false base v27 h28))
 (NR base  H) := (Za (cAt [1,0,1,0,1,1,1,1,1,0,1,0,0] Z9) ((Qe 3 ((Qe 0 ((Qg (fun _ t => JQ base (cAt [1,1] Z9) (Jp base) (Qf J9 (cAt [1,1] Z9) t)) (Jp base))))))) _ H []).trans (by kernel_rfl)
def XU (base : Nat) (t0 : V) (H : Qa) : Option (Out × Qa) := JQ base Z9 (Jp base) [(0,t0)] H []
theorem Ql3 (base : Nat) (t0 : V) (H : Qa) : XU base t0 H =
 beff (QD H t0) fun v0 h1 =>
 bnd (Qq v0 0) fun v2 =>
 bnd (Qc false 1 h1 v2) fun v3 =>
 bnd (Qb .eql 6 v3 (.int .i64 1)) fun v4 =>
 cnd v4
 (cnd v4
 (rt false base (.bool true) h1)
 (bnd (Qb .eql 6 v3 (.int .i64 3)) fun v5 =>
 cnd v5
 (RF base v0 (.int .i64 0) h1)
 (bnd (Qb .eql 6 v3 (.int .i64 4)) fun v18 =>
 cnd v18
 (Li base v0 (.int .i64 0) h1)
 (NR base  h1))))
 (bnd (Qb .eql 6 v3 (.int .i64 5)) fun v30 =>
 cnd v30
 (rt false base (.bool true) h1)
 (bnd (Qb .eql 6 v3 (.int .i64 3)) fun v31 =>
 cnd v31
 (RF base v0 (.int .i64 0) h1)
 (bnd (Qb .eql 6 v3 (.int .i64 4)) fun v32 =>
 cnd v32
 (Li base v0 (.int .i64 0) h1)
 (NR base  h1)))) := by kernel_rfl
theorem Qj2 (t0 : V) (H : Qa) : E Wj [t0] H = XU H.length t0 H := (QR Tryd.func14 (by kernel_rfl) (by kernel_rfl) (by kernel_rfl)).trans (by kernel_rfl)
def Vt : Code := QO Tryd.f15
def Fs : Ks := [(4,[2,3,5])]
def RN (base : Nat) : KC (Out × Qa) := QP Tryd.prog D false base 46 Tryd.f15.results.toList
def Fc (base : Nat) (c : Code) (k : KC (Out × Qa)) (t : Ts) (H : Qa) (d : Ds) : Option (Out × Qa) := xC Tryd.prog base false Fs E 46 c k t H d
def PR (base : Nat) (t2 t3 t5 : V) (H : Qa) : Option (Out × Qa) :=
Qt (fun t H d again => Fc base (cAt [1,1,0,1,0,0] Vt) (Ql Fs (cAt [1,1,0,1,0,0] Vt) again ((Qe 0 ((Qg (fun _ t => Fc base (cAt [1,1,1] Vt) (RN base) (Qf Fs (cAt [1,1,1] Vt) t)) (RN base)))))) t H d) [(2,t2),(3,t3),(5,t5)] H []
theorem XO (base : Nat) (t2 t3 t5 : V) (H : Qa) : PR base t2 t3 t5 H =
 bnd (Qq t2 5) fun v23 =>
 bnd (Qc false 1 H v23) fun v24 =>
 bnd (QM v24) fun v25 =>
 bnd (Qb .lss 6 t5 v25) fun v26 =>
 cnd v26
 (bnd (Qq t2 5) fun v27 =>
 bnd (Qc false 1 H v27) fun v28 =>
 bnd (Qx 6 v28 t5) fun v29 =>
 bnd (Qc true 6 H v29) fun v30 =>
 bnd (Qq t3 5) fun v31 =>
 bnd (Qc false 1 H v31) fun v32 =>
 bnd (Qx 6 v32 t5) fun v33 =>
 bnd (Qc true 6 H v33) fun v34 =>
 bcall (E Jv [v30,v34] H) (fun v35 h36 =>
 bnd (oUn .not v35) fun v37 =>
 cnd v37
 (rt false base (.bool false) h36)
 (bnd (Qb .add 6 t5 (.int .i64 1)) fun v38 =>
 PR base t2 t3 v38 h36))
 (fun v35 h36 => pn false base v35 h36))
 (rt false base (.bool true) H) := (Za (cAt [1,1,0,1,0,0] Vt) ((Qe 0 ((Qg (fun _ t => Fc base (cAt [1,1,1] Vt) (RN base) (Qf Fs (cAt [1,1,1] Vt) t)) (RN base))))) _ H []).trans (by kernel_rfl)
def QhE (base : Nat) (t0 t1 : V) (H : Qa) : Option (Out × Qa) := Fc base Vt (RN base) [(0,t0),(1,t1)] H []
theorem Qn4 (base : Nat) (t0 t1 : V) (H : Qa) : QhE base t0 t1 H =
 beff (QD H t0) fun v0 h1 =>
 beff (QD h1 t1) fun v2 h3 =>
 bnd (Qq v0 0) fun v4 =>
 bnd (Qc false 1 h3 v4) fun v5 =>
 bnd (Qq v2 0) fun v6 =>
 bnd (Qc false 1 h3 v6) fun v7 =>
 bnd (Qb .neq 6 v5 v7) fun v8 =>
 bnd (gua v8 false (Qq v0 1) (some (.tup []))) fun v9 =>
 bnd (gua v8 false (Qc true 4 h3 v9) (some (.tup []))) fun v10 =>
 bnd (gua v8 false (Qq v2 1) (some (.tup []))) fun v11 =>
 bnd (gua v8 false (Qc true 4 h3 v11) (some (.tup []))) fun v12 =>
 bnd (gua v8 false (Qb .neq 46 v10 v12) (some (.tup []))) fun v13 =>
 bnd (QY v8 (.bool true) v13) fun v14 =>
 bnd (gua v14 false (Qq v0 5) (some (.tup []))) fun v15 =>
 bnd (gua v14 false (Qc false 1 h3 v15) (some (.tup []))) fun v16 =>
 bnd (gua v14 false (QM v16) (some (.tup []))) fun v17 =>
 bnd (gua v14 false (Qq v2 5) (some (.tup []))) fun v18 =>
 bnd (gua v14 false (Qc false 1 h3 v18) (some (.tup []))) fun v19 =>
 bnd (gua v14 false (QM v19) (some (.tup []))) fun v20 =>
 bnd (gua v14 false (Qb .neq 6 v17 v20) (some (.tup []))) fun v21 =>
 bnd (QY v14 (.bool true) v21) fun v22 =>
 cnd v22
 (rt false base (.bool false) h3)
 (PR base v0 v2 (.int .i64 0) h3) := by kernel_rfl
theorem QjP (t0 t1 : V) (H : Qa) : E Jv [t0,t1] H = QhE H.length t0 t1 H := (QR Tryd.func15 (by kernel_rfl) (by kernel_rfl) (by kernel_rfl)).trans (by kernel_rfl)
def QkL : Code := QO Tryd.f16
def QoE : Ks := []
def Qof (base : Nat) : KC (Out × Qa) := QP Tryd.prog D false base 50 Tryd.f16.results.toList
def Qqq (base : Nat) (c : Code) (k : KC (Out × Qa)) (t : Ts) (H : Qa) (d : Ds) : Option (Out × Qa) := xC Tryd.prog base false QoE E 50 c k t H d
def TG (base : Nat) (t0 t1 : V) (H : Qa) : Option (Out × Qa) := Qqq base QkL (Qof base) [(0,t0),(1,t1)] H []
theorem Qos (base : Nat) (t0 t1 : V) (H : Qa) : TG base t0 t1 H =
 beff (QD H t0) fun v0 h1 =>
 beff (QD h1 (.agg [(.int .i64 0),(.int .u64 0),(.int .u64 0),(.int .u64 0),(.int .u64 0),.nils])) fun v2 h3 =>
 bnd (Qq v0 0) fun v4 =>
 bnd (Qc false 1 h3 v4) fun v5 =>
 bnd (Qb .eql 6 v5 (.int .i64 2)) fun v6 =>
 bnd (gua v6 true (Qq v0 1) (some (.tup []))) fun v7 =>
 bnd (gua v6 true (Qc true 4 h3 v7) (some (.tup []))) fun v8 =>
 bnd (gua v6 true (QL t1) (some (.tup []))) fun v9 =>
 bcall (gua v6 true (E DZ [v8,v9] h3) (some (.ret (.tup []),h3))) (fun v10 h11 =>
 bnd (QY v6 v10 (.bool false)) fun v12 =>
 cnd v12
 (bnd (Zj [(.int .i64 0),(.int .u64 0),(.int .u64 0),(.int .u64 0),(.int .u64 0),.nils] [(0,1),(1,4),(5,1)] [(0,(.int .i64 1))]) fun v13 =>
 beff (Qs base 6 h11 v2 v13) fun v14 h15 =>
 bnd (Qc true 6 h15 v2) fun v16 =>
 rt false base v16 h15)
 (bnd (Qq v0 0) fun v17 =>
 bnd (Qc false 1 h11 v17) fun v18 =>
 bnd (Qb .eql 6 v18 (.int .i64 3)) fun v19 =>
 cnd v19
 (bnd (Qc true 6 h11 v0) fun v20 =>
 bcall (E EC [v20,t1] h11) (fun v21 h22 =>
 beff (Qs base 6 h22 v2 v21) fun v23 h24 =>
 bnd (Qc true 6 h24 v2) fun v25 =>
 rt false base v25 h24)
 (fun v21 h22 => pn false base v21 h22))
 (bnd (Qq v0 0) fun v26 =>
 bnd (Qc false 1 h11 v26) fun v27 =>
 bnd (Qb .eql 6 v27 (.int .i64 4)) fun v28 =>
 cnd v28
 (bnd (Qc true 6 h11 v0) fun v29 =>
 bcall (E EW [v29,t1] h11) (fun v30 h31 =>
 beff (Qs base 6 h31 v2 v30) fun v32 h33 =>
 bnd (Qc true 6 h33 v2) fun v34 =>
 rt false base v34 h33)
 (fun v30 h31 => pn false base v30 h31))
 (bnd (Qq v0 0) fun v35 =>
 bnd (Qc false 1 h11 v35) fun v36 =>
 bnd (Qb .eql 6 v36 (.int .i64 5)) fun v37 =>
 bnd (gua v37 true (Qq v0 5) (some (.tup []))) fun v38 =>
 bnd (gua v37 true (Qc false 1 h11 v38) (some (.tup []))) fun v39 =>
 bnd (gua v37 true (QM v39) (some (.tup []))) fun v40 =>
 bnd (gua v37 true (Qb .eql 6 v40 (.int .i64 1)) (some (.tup []))) fun v41 =>
 bnd (QY v37 v41 (.bool false)) fun v42 =>
 cnd v42
 (bnd (Qq v0 5) fun v43 =>
 bnd (Qc false 1 h11 v43) fun v44 =>
 bnd (Qx 6 v44 (.int .i64 0)) fun v45 =>
 bnd (Qc true 6 h11 v45) fun v46 =>
 bcall (E Y5 [v46,t1] h11) (fun v47 h48 =>
 bnd (bnd (Qc true 6 h48 v0) fun v49 => sch (sam (Qc true 6 h11 v0) v49) (
 some v49)) fun v49 =>
 bnd (Zq 6 2 (.agg [(.int .i64 0),(.int .u64 0),(.int .u64 0),(.int .u64 0),(.int .u64 0),(.vs [])]) [(0,v47),(1,v49)]) fun v50 =>
 bcall (E PX [v50] h48) (fun v51 h52 =>
 beff (Qs base 6 h52 v2 v51) fun v53 h54 =>
 bnd (Qc true 6 h54 v2) fun v55 =>
 rt false base v55 h54)
 (fun v51 h52 => pn false base v51 h52))
 (fun v47 h48 => sch (tlb (Qc true 6 h11 v0) fun v56 => true) (pn false base v47 h48)))
 (bnd (Zj [(.int .i64 0),(.int .u64 0),(.int .u64 0),(.int .u64 0),(.int .u64 0),.nils] [(0,1),(1,4),(5,1)] [(0,(.int .i64 0))]) fun v57 =>
 beff (Qs base 6 h11 v2 v57) fun v58 h59 =>
 bnd (Qc true 6 h59 v2) fun v60 =>
 rt false base v60 h59)))))
 (fun v10 h11 => pn false base v10 h11) := by kernel_rfl
theorem QlJ (t0 t1 : V) (H : Qa) : E Y5 [t0,t1] H = TG H.length t0 t1 H := (QR Tryd.func16 (by kernel_rfl) (by kernel_rfl) (by kernel_rfl)).trans (by kernel_rfl)
def Zv : Code := QO Tryd.f17
def Ja : Ks := [(8,[1,2,4,5,6]),(13,[4,5]),(17,[1,2,4,8,9]),(24,[4])]
def Yo (base : Nat) : KC (Out × Qa) := QP Tryd.prog D false base 93 Tryd.f17.results.toList
def YB (base : Nat) (c : Code) (k : KC (Out × Qa)) (t : Ts) (H : Qa) (d : Ds) : Option (Out × Qa) := xC Tryd.prog base true Ja E 93 c k t H d
def Mj (base : Nat) (t4 : V) (H : Qa) : Option (Out × Qa) :=
YB base (cAt [1,1] Zv) (Yo base) [(4,t4)] H []
theorem Qne (base : Nat) (t4 : V) (H : Qa) : Mj base t4 H =
 bnd (Zj [(.int .i64 0),(.int .u64 0),(.int .u64 0),(.int .u64 0),(.int .u64 0),.nils] [(0,1),(1,4),(5,1)] []) fun v15 =>
 beff (Qs base 6 H t4 v15) fun v16 h17 =>
 bnd (Qc true 6 h17 t4) fun v18 =>
 rt false base v18 h17 := by kernel_rfl
def Gl (base : Nat) (t1 t2 t4 t5 t6 : V) (H : Qa) : Option (Out × Qa) :=
Qt (fun t H d again => YB base (cAt [1,0,1,0,1,1,1,0,1,0,1,0,0] Zv) (Ql Ja (cAt [1,0,1,0,1,1,1,0,1,0,1,0,0] Zv) again ((Qe 1 ((Qg (fun _ t => YB base (cAt [1,0,1,0,1,1,1,0,1,1] Zv) ((Qe 0 ((Qg (fun _ t => YB base (cAt [1,1] Zv) (Yo base) (Qf Ja (cAt [1,1] Zv) t)) (Yo base))))) (Qf Ja (cAt [1,0,1,0,1,1,1,0,1,1] Zv) t)) ((Qe 0 ((Qg (fun _ t => YB base (cAt [1,1] Zv) (Yo base) (Qf Ja (cAt [1,1] Zv) t)) (Yo base)))))))))) t H d) [(1,t1),(2,t2),(4,t4),(5,t5),(6,t6)] H []
def GR (base : Nat) (t4 t5 : V) (H : Qa) : Option (Out × Qa) :=
YB base (cAt [1,0,1,0,1,1,1,0,1,1] Zv) ((Qe 0 ((Qg (fun _ t => YB base (cAt [1,1] Zv) (Yo base) (Qf Ja (cAt [1,1] Zv) t)) (Yo base))))) [(4,t4),(5,t5)] H []
theorem Qpt (base : Nat) (t4 t5 : V) (H : Qa) : GR base t4 t5 H =
 bcall (E V9 [t5] H) (fun v50 h51 =>
 beff (Qs base 6 h51 t4 v50) fun v52 h53 =>
 bnd (Qc true 6 h53 t4) fun v54 =>
 rt false base v54 h53)
 (fun v50 h51 => pn false base v50 h51) := by kernel_rfl
theorem AF (base : Nat) (t1 t2 t4 t5 t6 : V) (H : Qa) : Gl base t1 t2 t4 t5 t6 H =
 bnd (Qq t2 5) fun v20 =>
 bnd (Qc false 1 H v20) fun v21 =>
 bnd (QM v21) fun v22 =>
 bnd (Qb .lss 6 t6 v22) fun v23 =>
 cnd v23
 (bnd (Qq t2 5) fun v24 =>
 bnd (Qc false 1 H v24) fun v25 =>
 bnd (Qx 6 v25 t6) fun v26 =>
 bnd (Qc true 6 H v26) fun v27 =>
 bcall (E Wk [v27,t1] H) (fun v28 h29 =>
 beff (Wq 1 6 true [(.int .i64 0),(.int .u64 0),(.int .u64 0),(.int .u64 0),(.int .u64 0),.nils] h29 [(0,v28)]) fun v30 h31 =>
 bnd (Qq t2 5) fun v32 =>
 bnd (Qc false 1 h31 v32) fun v33 =>
 bnd (Qb .add 6 t6 (.int .i64 1)) fun v34 =>
 bnd (JO 6 v33 (some v34) none none) fun v35 =>
 beff (Z1 base 6 64 true v30 v35 h31) fun v36 h37 =>
 bcall (E Vi [v36] h37) (fun v38 h39 =>
 bnd (Zq 6 1 (.agg [(.int .i64 0),(.int .u64 0),(.int .u64 0),(.int .u64 0),(.int .u64 0),(.vs [])]) [(0,v38)]) fun v40 =>
 beff (Z1 base 6 64 true t5 v40 h39) fun v41 h42 =>
 bnd (Qq t2 5) fun v43 =>
 bnd (Qc false 1 h42 v43) fun v44 =>
 bnd (Qx 6 v44 t6) fun v45 =>
 bnd (Qc true 6 h42 v45) fun v46 =>
 bcall (E Wj [v46] h42) (fun v47 h48 =>
 bnd (oUn .not v47) fun v49 =>
 cnd v49
 (GR base t4 v41 h48)
 (bnd (Qb .add 6 t6 (.int .i64 1)) fun v55 =>
 Gl base t1 t2 t4 v41 v55 h48))
 (fun v47 h48 => pn false base v47 h48))
 (fun v38 h39 => pn false base v38 h39))
 (fun v28 h29 => pn false base v28 h29))
 (GR base t4 t5 H) := (Za (cAt [1,0,1,0,1,1,1,0,1,0,1,0,0] Zv) ((Qe 1 ((Qg (fun _ t => YB base (cAt [1,0,1,0,1,1,1,0,1,1] Zv) ((Qe 0 ((Qg (fun _ t => YB base (cAt [1,1] Zv) (Yo base) (Qf Ja (cAt [1,1] Zv) t)) (Yo base))))) (Qf Ja (cAt [1,0,1,0,1,1,1,0,1,1] Zv) t)) ((Qe 0 ((Qg (fun _ t => YB base (cAt [1,1] Zv) (Yo base) (Qf Ja (cAt [1,1] Zv) t)) (Yo base))))))))) _ H []).trans (by kernel_rfl)
def Gt (base : Nat) (t1 t2 t4 t8 t9 : V) (H : Qa) : Option (Out × Qa) :=
Qt (fun t H d again => YB base (cAt [1,0,1,0,1,1,1,1,1,0,1,0,1,0,0] Zv) (Ql Ja (cAt [1,0,1,0,1,1,1,1,1,0,1,0,1,0,0] Zv) again ((Qe 3 ((Qg (fun _ t => YB base (cAt [1,0,1,0,1,1,1,1,1,0,1,1] Zv) ((Qe 0 ((Qg (fun _ t => YB base (cAt [1,1] Zv) (Yo base) (Qf Ja (cAt [1,1] Zv) t)) (Yo base))))) (Qf Ja (cAt [1,0,1,0,1,1,1,1,1,0,1,1] Zv) t)) ((Qe 0 ((Qg (fun _ t => YB base (cAt [1,1] Zv) (Yo base) (Qf Ja (cAt [1,1] Zv) t)) (Yo base)))))))))) t H d) [(1,t1),(2,t2),(4,t4),(8,t8),(9,t9)] H []
theorem Qf3 (base : Nat) (t1 t2 t4 t8 t9 : V) (H : Qa) : Gt base t1 t2 t4 t8 t9 H =
 bnd (Qq t2 5) fun v57 =>
 bnd (Qc false 1 H v57) fun v58 =>
 bnd (QM v58) fun v59 =>
 bnd (Qb .lss 6 t9 v59) fun v60 =>
 cnd v60
 (bnd (Qq t2 5) fun v61 =>
 bnd (Qc false 1 H v61) fun v62 =>
 bnd (Qx 6 v62 t9) fun v63 =>
 bnd (Qc true 6 H v63) fun v64 =>
 bcall (E Wk [v64,t1] H) (fun v65 h66 =>
 bnd (Zq 6 1 (.agg [(.int .i64 0),(.int .u64 0),(.int .u64 0),(.int .u64 0),(.int .u64 0),(.vs [])]) [(0,v65)]) fun v67 =>
 beff (Z1 base 6 64 true t8 v67 h66) fun v68 h69 =>
 bnd (Qb .add 6 t9 (.int .i64 1)) fun v70 =>
 Gt base t1 t2 t4 v68 v70 h69)
 (fun v65 h66 => pn false base v65 h66))
 (bcall (E V9 [t8] H) (fun v71 h72 =>
 beff (Qs base 6 h72 t4 v71) fun v73 h74 =>
 bnd (Qc true 6 h74 t4) fun v75 =>
 rt false base v75 h74)
 (fun v71 h72 => pn false base v71 h72)) := (Za (cAt [1,0,1,0,1,1,1,1,1,0,1,0,1,0,0] Zv) ((Qe 3 ((Qg (fun _ t => YB base (cAt [1,0,1,0,1,1,1,1,1,0,1,1] Zv) ((Qe 0 ((Qg (fun _ t => YB base (cAt [1,1] Zv) (Yo base) (Qf Ja (cAt [1,1] Zv) t)) (Yo base))))) (Qf Ja (cAt [1,0,1,0,1,1,1,1,1,0,1,1] Zv) t)) ((Qe 0 ((Qg (fun _ t => YB base (cAt [1,1] Zv) (Yo base) (Qf Ja (cAt [1,1] Zv) t)) (Yo base))))))))) _ H []).trans (by kernel_rfl)
def X8 (base : Nat) (t0 t1 : V) (H : Qa) : Option (Out × Qa) := YB base Zv (Yo base) [(0,t0),(1,t1)] H []
theorem QiE (base : Nat) (t0 t1 : V) (H : Qa) : X8 base t0 t1 H =
 beff (QD H t0) fun v0 h1 =>
 beff (QD h1 (.agg [(.int .i64 0),(.int .u64 0),(.int .u64 0),(.int .u64 0),(.int .u64 0),.nils])) fun v2 h3 =>
 bnd (Qq v0 0) fun v4 =>
 bnd (Qc false 1 h3 v4) fun v5 =>
 bnd (Qb .eql 6 v5 (.int .i64 2)) fun v6 =>
 cnd v6
 (bnd (Qq v0 1) fun v7 =>
 bnd (Qc true 4 h3 v7) fun v8 =>
 bcall (E Vy [v8,t1] h3) (fun v9 h10 =>
 cnd v9
 (bnd (Zj [(.int .i64 0),(.int .u64 0),(.int .u64 0),(.int .u64 0),(.int .u64 0),.nils] [(0,1),(1,4),(5,1)] [(0,(.int .i64 1))]) fun v11 =>
 beff (Qs base 6 h10 v2 v11) fun v12 h13 =>
 bnd (Qc true 6 h13 v2) fun v14 =>
 rt false base v14 h13)
 (Mj base v2 h10))
 (fun v9 h10 => pn false base v9 h10))
 (bnd (Qb .eql 6 v5 (.int .i64 3)) fun v19 =>
 cnd v19
 (Gl base t1 v0 v2 .nils (.int .i64 0) h3)
 (bnd (Qb .eql 6 v5 (.int .i64 4)) fun v56 =>
 cnd v56
 (Gt base t1 v0 v2 .nils (.int .i64 0) h3)
 (bnd (Qb .eql 6 v5 (.int .i64 5)) fun v76 =>
 cnd v76
 (bnd (Qq v0 5) fun v77 =>
 bnd (Qc false 1 h3 v77) fun v78 =>
 bnd (QM v78) fun v79 =>
 bnd (Qb .eql 6 v79 (.int .i64 1)) fun v80 =>
 cnd v80
 (bnd (Qq v0 5) fun v81 =>
 bnd (Qc false 1 h3 v81) fun v82 =>
 bnd (Qx 6 v82 (.int .i64 0)) fun v83 =>
 bnd (Qc true 6 h3 v83) fun v84 =>
 bcall (E Wk [v84,t1] h3) (fun v85 h86 =>
 bnd (bnd (Qc true 6 h86 v0) fun v87 => sch (sam (Qc true 6 h3 v0) v87) (
 some v87)) fun v87 =>
 beff (Wq 2 6 true [(.int .i64 0),(.int .u64 0),(.int .u64 0),(.int .u64 0),(.int .u64 0),.nils,(.int .i64 0),(.int .u64 0),(.int .u64 0),(.int .u64 0),(.int .u64 0),.nils] h86 [(0,v85),(1,v87)]) fun v88 h89 =>
 bcall (E Vi [v88] h89) (fun v90 h91 =>
 beff (Qs base 6 h91 v2 v90) fun v92 h93 =>
 bnd (Qc true 6 h93 v2) fun v94 =>
 rt false base v94 h93)
 (fun v90 h91 => pn false base v90 h91))
 (fun v85 h86 => sch (tlb (Qc true 6 h3 v0) fun v95 => true) (pn false base v85 h86)))
 (Mj base v2 h3))
 (Mj base v2 h3)))) := by kernel_rfl
theorem Qh3 (t0 t1 : V) (H : Qa) : E Wk [t0,t1] H = X8 H.length t0 t1 H := (QR Tryd.func17 (by kernel_rfl) (by kernel_rfl) (by kernel_rfl)).trans (by kernel_rfl)
def QqD : Code := QO Tryd.f18
def QjK : Ks := []
def Qop (base : Nat) : KC (Out × Qa) := QP Tryd.prog D false base 12 Tryd.f18.results.toList
def Qpp (base : Nat) (c : Code) (k : KC (Out × Qa)) (t : Ts) (H : Qa) (d : Ds) : Option (Out × Qa) := xC Tryd.prog base false QjK E 12 c k t H d
def Qd4 (base : Nat) (t0 t1 : V) (H : Qa) : Option (Out × Qa) := Qpp base QqD (Qop base) [(0,t0),(1,t1)] H []
theorem Qks (base : Nat) (t0 t1 : V) (H : Qa) : Qd4 base t0 t1 H =
 beff (QD H (.agg [(.int .i64 0),(.int .u64 0),(.int .u64 0),(.int .u64 0),(.int .u64 0),.nils])) fun v0 h1 =>
 bnd (Zj [.nils,(.int .i64 0)] [(0,1),(1,1)] [(0,t0),(1,t1)]) fun v2 =>
 beff (QD h1 v2) fun v3 h4 =>
 bcall (E NU [v3,(.int .i64 4)] h4) (fun v5 h6 =>
 beff (Qs base 6 h6 v0 v5) fun v7 h8 =>
 bnd (Qc true 6 h8 v0) fun v9 =>
 rt false base v9 h8)
 (fun v5 h6 => pn false base v5 h6) := by kernel_rfl
theorem QjZ (t0 t1 : V) (H : Qa) : E MX [t0,t1] H = Qd4 H.length t0 t1 H := (QR Tryd.func18 (by kernel_rfl) (by kernel_rfl) (by kernel_rfl)).trans (by kernel_rfl)
def QiS : Code := QO Tryd.f19
def QkC : Ks := []
def QqO (base : Nat) : KC (Out × Qa) := QP Tryd.prog D false base 15 Tryd.f19.results.toList
def QkY (base : Nat) (c : Code) (k : KC (Out × Qa)) (t : Ts) (H : Qa) (d : Ds) : Option (Out × Qa) := xC Tryd.prog base false QkC E 15 c k t H d
def Qa2 (base : Nat) (t0 t1 : V) (H : Qa) : Option (Out × Qa) := QkY base QiS (QqO base) [(0,t0),(1,t1)] H []
theorem QoP (base : Nat) (t0 t1 : V) (H : Qa) : Qa2 base t0 t1 H =
 bnd (Zq 1 5 (.str []) [(0,(.str [97])),(1,(.str [98])),(2,(.str [99])),(3,(.str [100])),(4,(.str [97]))]) fun v0 =>
 bcall (E DY [t0,v0] H) (fun v1 h2 =>
 bnd (Us v1) fun v3 =>
 bnd (Fh [v3,t1]) fun v4 =>
 bnd (F2 v1 none (some v4) none) fun v5 =>
 rt false base v5 h2)
 (fun v1 h2 => pn false base v1 h2) := by kernel_rfl
theorem QqJ (t0 t1 : V) (H : Qa) : E VU [t0,t1] H = Qa2 H.length t0 t1 H := (QR Tryd.func19 (by kernel_rfl) (by kernel_rfl) (by kernel_rfl)).trans (by kernel_rfl)
def WT : Code := QO Tryd.f20
def Gy : Ks := [(2,[1,2,5])]
def Ng (base : Nat) : KC (Out × Qa) := QP Tryd.prog D false base 20 Tryd.f20.results.toList
def Ff (base : Nat) (c : Code) (k : KC (Out × Qa)) (t : Ts) (H : Qa) (d : Ds) : Option (Out × Qa) := xC Tryd.prog base false Gy E 20 c k t H d
def GY (base : Nat) (t1 t2 t5 : V) (H : Qa) : Option (Out × Qa) :=
Qt (fun t H d again => Ff base (cAt [1,0,1,0,0] WT) (Ql Gy (cAt [1,0,1,0,0] WT) again ((Qe 0 ((Qg (fun _ t => Ff base (cAt [1,1] WT) (Ng base) (Qf Gy (cAt [1,1] WT) t)) (Ng base)))))) t H d) [(1,t1),(2,t2),(5,t5)] H []
theorem Qe0 (base : Nat) (t1 t2 t5 : V) (H : Qa) : GY base t1 t2 t5 H =
 bnd (Us t1) fun v2 =>
 bnd (Qb .lss 6 t5 v2) fun v3 =>
 cnd v3
 (bnd (Qc true 6 H t2) fun v4 =>
 bnd (KE t1 t5) fun v5 =>
 bnd (Yc .i64 v5) fun v6 =>
 bcall (E Y5 [v4,v6] H) (fun v7 h8 =>
 beff (Qs base 6 h8 t2 v7) fun v9 h10 =>
 bnd (Qb .add 6 t5 (.int .i64 1)) fun v11 =>
 GY base t1 t2 v11 h10)
 (fun v7 h8 => pn false base v7 h8))
 (bnd (Qc true 6 H t2) fun v12 =>
 bcall (E JH [v12] H) (fun v13 h14 =>
 rt false base v13 h14)
 (fun v13 h14 => pn false base v13 h14)) := (Za (cAt [1,0,1,0,0] WT) ((Qe 0 ((Qg (fun _ t => Ff base (cAt [1,1] WT) (Ng base) (Qf Gy (cAt [1,1] WT) t)) (Ng base))))) _ H []).trans (by kernel_rfl)
def QfT (base : Nat) (t0 t1 : V) (H : Qa) : Option (Out × Qa) := Ff base WT (Ng base) [(0,t0),(1,t1)] H []
theorem QhO (base : Nat) (t0 t1 : V) (H : Qa) : QfT base t0 t1 H =
 beff (QD H t0) fun v0 h1 =>
 GY base t1 v0 (.int .i64 0) h1 := by kernel_rfl
theorem Qj6 (t0 t1 : V) (H : Qa) : E UO [t0,t1] H = QfT H.length t0 t1 H := (QR Tryd.func20 (by kernel_rfl) (by kernel_rfl) (by kernel_rfl)).trans (by kernel_rfl)
def YX : Code := QO Tryd.f22
def VD : Ks := [(4,[2,3,4,5]),(5,[2,3,4,5])]
def Wg (base : Nat) : KC (Out × Qa) := QP Tryd.prog D false base 40 Tryd.f22.results.toList
def VK (base : Nat) (c : Code) (k : KC (Out × Qa)) (t : Ts) (H : Qa) (d : Ds) : Option (Out × Qa) := xC Tryd.prog base false VD E 40 c k t H d
def Rk (base : Nat) (t2 t3 t4 t5 : V) (H : Qa) : Option (Out × Qa) :=
Qt (fun t H d again => VK base (cAt [1,1,1,0,1,0,0] YX) (Ql VD (cAt [1,1,1,0,1,0,0] YX) again ((Qe 0 ((Qg (fun _ t => VK base (cAt [1,1,1,1] YX) (Wg base) (Qf VD (cAt [1,1,1,1] YX) t)) (Wg base)))))) t H d) [(2,t2),(3,t3),(4,t4),(5,t5)] H []
def Lj (base : Nat) (t2 t3 t4 t5 : V) (H : Qa) : Option (Out × Qa) :=
VK base (cAt [1,1,1,0,1,0,0,1,1] YX) ((Ql VD (cAt [1,1,1,0,1,0,0] YX) (Qt (fun t H d again => VK base (cAt [1,1,1,0,1,0,0] YX) (Ql VD (cAt [1,1,1,0,1,0,0] YX) again ((Qe 0 ((Qg (fun _ t => VK base (cAt [1,1,1,1] YX) (Wg base) (Qf VD (cAt [1,1,1,1] YX) t)) (Wg base)))))) t H d)) ((Qe 0 ((Qg (fun _ t => VK base (cAt [1,1,1,1] YX) (Wg base) (Qf VD (cAt [1,1,1,1] YX) t)) (Wg base))))))) [(2,t2),(3,t3),(4,t4),(5,t5)] H []
theorem QfF (base : Nat) (t2 t3 t4 t5 : V) (H : Qa) : Lj base t2 t3 t4 t5 H =
 bnd (Qb .add 6 t5 (.int .i64 1)) fun v23 =>
 Rk base t2 t3 t4 v23 H := by kernel_rfl
theorem QoM (base : Nat) (t2 t3 t4 t5 : V) (H : Qa) : Rk base t2 t3 t4 t5 H =
 bnd (QM t3) fun v4 =>
 bnd (Qb .lss 6 t5 v4) fun v5 =>
 cnd v5
 (bnd (Qx 6 t3 t5) fun v6 =>
 bnd (Qq v6 0) fun v7 =>
 bnd (Qc false 1 H v7) fun v8 =>
 bnd (Qb .eql 6 v8 (.int .i64 0)) fun v9 =>
 cnd v9
 (bnd (Zj [(.int .i64 0),(.int .u64 0),(.int .u64 0),(.int .u64 0),(.int .u64 0),.nils] [(0,1),(1,4),(5,1)] []) fun v10 =>
 beff (Qs base 6 H t2 v10) fun v11 h12 =>
 bnd (Qc true 6 h12 t2) fun v13 =>
 rt false base v13 h12)
 (bnd (Qx 6 t3 t5) fun v14 =>
 bnd (Qq v14 0) fun v15 =>
 bnd (Qc false 1 H v15) fun v16 =>
 bnd (Qb .neq 6 v16 (.int .i64 1)) fun v17 =>
 cnd v17
 (bnd (Qx 6 t3 t5) fun v18 =>
 bnd (Qc true 6 H v18) fun v19 =>
 bnd (Zq 6 1 (.agg [(.int .i64 0),(.int .u64 0),(.int .u64 0),(.int .u64 0),(.int .u64 0),(.vs [])]) [(0,v19)]) fun v20 =>
 beff (Z1 base 6 64 true t4 v20 H) fun v21 h22 =>
 Lj base t2 t3 v21 t5 h22)
 (Lj base t2 t3 t4 t5 H)))
 (bnd (QM t4) fun v24 =>
 bnd (Qb .eql 6 v24 (.int .i64 0)) fun v25 =>
 cnd v25
 (bnd (Zj [(.int .i64 0),(.int .u64 0),(.int .u64 0),(.int .u64 0),(.int .u64 0),.nils] [(0,1),(1,4),(5,1)] [(0,(.int .i64 1))]) fun v26 =>
 beff (Qs base 6 H t2 v26) fun v27 h28 =>
 bnd (Qc true 6 h28 t2) fun v29 =>
 rt false base v29 h28)
 (bcall (E L2 [t4,(.int .i64 3)] H) (fun v30 h31 =>
 beff (Qs base 6 h31 t2 v30) fun v32 h33 =>
 bnd (Qc true 6 h33 t2) fun v34 =>
 rt false base v34 h33)
 (fun v30 h31 => pn false base v30 h31))) := (Za (cAt [1,1,1,0,1,0,0] YX) ((Qe 0 ((Qg (fun _ t => VK base (cAt [1,1,1,1] YX) (Wg base) (Qf VD (cAt [1,1,1,1] YX) t)) (Wg base))))) _ H []).trans (by kernel_rfl)
def Qc3 (base : Nat) (t0 : V) (H : Qa) : Option (Out × Qa) := VK base YX (Wg base) [(0,t0)] H []
theorem QmC (base : Nat) (t0 : V) (H : Qa) : Qc3 base t0 H =
 beff (QD H (.agg [(.int .i64 0),(.int .u64 0),(.int .u64 0),(.int .u64 0),(.int .u64 0),.nils])) fun v0 h1 =>
 bcall (E Ge [t0,(.int .i64 3)] h1) (fun v2 h3 =>
 Rk base v0 v2 .nils (.int .i64 0) h3)
 (fun v2 h3 => pn false base v2 h3) := by kernel_rfl
theorem QjC (t0 : V) (H : Qa) : E Vi [t0] H = Qc3 H.length t0 H := (QR Tryd.func22 (by kernel_rfl) (by kernel_rfl) (by kernel_rfl)).trans (by kernel_rfl)
def QgC : Code := QO Tryd.f23
def QoZ : Ks := [(7,[1,2])]
def QfG (base : Nat) : KC (Out × Qa) := QP Tryd.prog D false base 15 Tryd.f23.results.toList
def Qd2 (base : Nat) (c : Code) (k : KC (Out × Qa)) (t : Ts) (H : Qa) (d : Ds) : Option (Out × Qa) := xC Tryd.prog base false QoZ E 15 c k t H d
def Dx (base : Nat) (t1 t2 : V) (H : Qa) : Option (Out × Qa) :=
Qd2 base (cAt [1,1] QgC) (QfG base) [(1,t1),(2,t2)] H []
theorem Tg (base : Nat) (t1 t2 : V) (H : Qa) : Dx base t1 t2 H =
 bnd (Qc true 6 H t1) fun v16 =>
 bnd (Zq 6 1 (.agg [(.int .i64 0),(.int .u64 0),(.int .u64 0),(.int .u64 0),(.int .u64 0),(.vs [])]) [(0,v16)]) fun v17 =>
 bnd (Zj [(.int .i64 0),(.int .u64 0),(.int .u64 0),(.int .u64 0),(.int .u64 0),.nils] [(0,1),(1,4),(5,1)] [(0,(.int .i64 5)),(2,v17)]) fun v18 =>
 beff (Qs base 6 H t2 v18) fun v19 h20 =>
 bnd (Qc true 6 h20 t2) fun v21 =>
 rt false base v21 h20 := by kernel_rfl
def Qhn (base : Nat) (t0 : V) (H : Qa) : Option (Out × Qa) := Qd2 base QgC (QfG base) [(0,t0)] H []
theorem XC (base : Nat) (t0 : V) (H : Qa) : Qhn base t0 H =
 beff (QD H t0) fun v0 h1 =>
 beff (QD h1 (.agg [(.int .i64 0),(.int .u64 0),(.int .u64 0),(.int .u64 0),(.int .u64 0),.nils])) fun v2 h3 =>
 bnd (Qq v0 0) fun v4 =>
 bnd (Qc false 1 h3 v4) fun v5 =>
 bnd (Qb .eql 6 v5 (.int .i64 0)) fun v6 =>
 cnd v6
 (cnd v6
 (bnd (Zj [(.int .i64 0),(.int .u64 0),(.int .u64 0),(.int .u64 0),(.int .u64 0),.nils] [(0,1),(1,4),(5,1)] [(0,(.int .i64 1))]) fun v7 =>
 beff (Qs base 6 h3 v2 v7) fun v8 h9 =>
 bnd (Qc true 6 h9 v2) fun v10 =>
 rt false base v10 h9)
 (bnd (Qb .eql 6 v5 (.int .i64 5)) fun v11 =>
 cnd v11
 (bnd (Qc true 6 h3 v0) fun v12 =>
 beff (Qs base 6 h3 v2 v12) fun v13 h14 =>
 bnd (Qc true 6 h14 v2) fun v15 =>
 rt false base v15 h14)
 (Dx base v0 v2 h3)))
 (bnd (Qb .eql 6 v5 (.int .i64 1)) fun v22 =>
 cnd v22
 (bnd (Zj [(.int .i64 0),(.int .u64 0),(.int .u64 0),(.int .u64 0),(.int .u64 0),.nils] [(0,1),(1,4),(5,1)] [(0,(.int .i64 1))]) fun v23 =>
 beff (Qs base 6 h3 v2 v23) fun v24 h25 =>
 bnd (Qc true 6 h25 v2) fun v26 =>
 rt false base v26 h25)
 (bnd (Qb .eql 6 v5 (.int .i64 5)) fun v27 =>
 cnd v27
 (bnd (Qc true 6 h3 v0) fun v28 =>
 beff (Qs base 6 h3 v2 v28) fun v29 h30 =>
 bnd (Qc true 6 h30 v2) fun v31 =>
 rt false base v31 h30)
 (Dx base v0 v2 h3))) := by kernel_rfl
theorem QhA (t0 : V) (H : Qa) : E WI [t0] H = Qhn H.length t0 H := (QR Tryd.func23 (by kernel_rfl) (by kernel_rfl) (by kernel_rfl)).trans (by kernel_rfl)
def Jb : Code := QO Tryd.f24
def VM : Ks := [(3,[0,1,4,5,6]),(4,[0,1,4,5,6])]
def K7 (base : Nat) : KC (Out × Qa) := QP Tryd.prog D false base 23 Tryd.f24.results.toList
def VH (base : Nat) (c : Code) (k : KC (Out × Qa)) (t : Ts) (H : Qa) (d : Ds) : Option (Out × Qa) := xC Tryd.prog base false VM E 23 c k t H d
def MY (base : Nat) (t0 t1 t4 t5 t6 : V) (H : Qa) : Option (Out × Qa) :=
Qt (fun t H d again => VH base (cAt [1,1,0,1,0,0] Jb) (Ql VM (cAt [1,1,0,1,0,0] Jb) again ((Qe 0 ((Qg (fun _ t => VH base (cAt [1,1,1] Jb) (K7 base) (Qf VM (cAt [1,1,1] Jb) t)) (K7 base)))))) t H d) [(0,t0),(1,t1),(4,t4),(5,t5),(6,t6)] H []
def LM (base : Nat) (t0 t1 t4 t5 t6 : V) (H : Qa) : Option (Out × Qa) :=
VH base (cAt [1,1,0,1,0,0,1,1] Jb) ((Ql VM (cAt [1,1,0,1,0,0] Jb) (Qt (fun t H d again => VH base (cAt [1,1,0,1,0,0] Jb) (Ql VM (cAt [1,1,0,1,0,0] Jb) again ((Qe 0 ((Qg (fun _ t => VH base (cAt [1,1,1] Jb) (K7 base) (Qf VM (cAt [1,1,1] Jb) t)) (K7 base)))))) t H d)) ((Qe 0 ((Qg (fun _ t => VH base (cAt [1,1,1] Jb) (K7 base) (Qf VM (cAt [1,1,1] Jb) t)) (K7 base))))))) [(0,t0),(1,t1),(4,t4),(5,t5),(6,t6)] H []
theorem Qh1 (base : Nat) (t0 t1 t4 t5 t6 : V) (H : Qa) : LM base t0 t1 t4 t5 t6 H =
 bnd (Qb .add 6 t6 (.int .i64 1)) fun v15 =>
 MY base t0 t1 t4 t5 v15 H := by kernel_rfl
theorem QjL (base : Nat) (t0 t1 t4 t5 t6 : V) (H : Qa) : MY base t0 t1 t4 t5 t6 H =
 bnd (Qb .lss 6 t6 (.int .i64 256)) fun v4 =>
 cnd v4
 (bnd (Qb .geq 6 t6 t0) fun v5 =>
 bnd (gua v5 true (QL t6) (some (.tup []))) fun v6 =>
 bnd (gua v5 true (QL t1) (some (.tup []))) fun v7 =>
 bnd (gua v5 true (Qb .leq 6 v6 v7) (some (.tup []))) fun v8 =>
 bnd (QY v5 v8 (.bool false)) fun v9 =>
 cnd v9
 (bnd (Qc true 4 H t5) fun v10 =>
 bcall (E Eg [v10,t6] H) (fun v11 h12 =>
 beff (Qs base 4 h12 t5 v11) fun v13 h14 =>
 LM base t0 t1 t4 t5 t6 h14)
 (fun v11 h12 => pn false base v11 h12))
 (LM base t0 t1 t4 t5 t6 H))
 (bnd (Qc true 4 H t5) fun v16 =>
 beff (Qs base 4 H t4 v16) fun v17 h18 =>
 bnd (Qc true 4 h18 t4) fun v19 =>
 rt false base v19 h18) := (Za (cAt [1,1,0,1,0,0] Jb) ((Qe 0 ((Qg (fun _ t => VH base (cAt [1,1,1] Jb) (K7 base) (Qf VM (cAt [1,1,1] Jb) t)) (K7 base))))) _ H []).trans (by kernel_rfl)
def QcL (base : Nat) (t0 t1 : V) (H : Qa) : Option (Out × Qa) := VH base Jb (K7 base) [(0,t0),(1,t1)] H []
theorem Qq0 (base : Nat) (t0 t1 : V) (H : Qa) : QcL base t0 t1 H =
 beff (QD H (.agg [(.int .u64 0),(.int .u64 0),(.int .u64 0),(.int .u64 0)])) fun v0 h1 =>
 beff (QD h1 (.agg [(.int .u64 0),(.int .u64 0),(.int .u64 0),(.int .u64 0)])) fun v2 h3 =>
 MY base t0 t1 v0 v2 (.int .i64 0) h3 := by kernel_rfl
theorem Qjy (t0 t1 : V) (H : Qa) : E BH [t0,t1] H = QcL H.length t0 t1 H := (QR Tryd.func24 (by kernel_rfl) (by kernel_rfl) (by kernel_rfl)).trans (by kernel_rfl)
end
end Go.Proofs.YtdnmpaielmfiiaaDoor
end
