/- Fn1: a part of the proof that each law of this seat answers true at every input. No condition. -/
import Derived.Test.YtdnmpaielmfiiaaDoorHint
import Derived.KernelRfl
set_option linter.unusedVariables false
set_option linter.unusedSimpArgs false
set_option maxRecDepth 20000
section
namespace Go.Proofs.YtdnmpaielmfiiaaDoor
open Go Go.Ev
noncomputable section
def Qkb : Code := QO Tryd.f3
def Qig : Ks := []
def QoU (base : Nat) : KC (Out × Qa) := QN Tryd.prog D false base 26 Tryd.f3.results.toList
def Qph (base : Nat) (c : Code) (k : KC (Out × Qa)) (t : Ts) (H : Qa) (d : Ds) : Option (Out × Qa) := xC Tryd.prog base false Qig E 26 c k t H d
def Qc7 (base : Nat) (t0 t1 : V) (H : Qa) : Option (Out × Qa) := Qph base Qkb (QoU base) [(0,t0),(1,t1)] H []
theorem Qjc (base : Nat) (t0 t1 : V) (H : Qa) : Qc7 base t0 t1 H =
 beff (QB H t0) fun v0 h1 =>
 bnd (Qd true 6 h1 v0) fun v2 =>
 bcall (E Bh [v2] h1) (fun v3 h4 =>
 bnd (Qb .gtr 6 v3 (.int .i64 60)) fun v5 =>
 cnd v5
 (bcall (E U4 [] h4) (fun v6 h7 =>
 rt false base v6 h7)
 (fun v6 h7 => pn false base v6 h7))
 (bcall (E U4 [] h4) (fun v8 h9 =>
 bnd (gua v8 true (Qd true 6 h9 v0) (some (.tup []))) fun v10 =>
 bcall (gua v8 true (E Jq [v10] h9) (some (.ret (.tup []),h9))) (fun v11 h12 =>
 bnd (gua v8 true (bnd (Qd true 6 h12 v0) fun v13 => sch (sam (Qd true 6 h9 v0) v13) (
 some v13)) (some (.tup []))) fun v13 =>
 bcall (gua v8 true (E Kp [v13] h12) (some (.ret (.tup []),h12))) (fun v14 h15 =>
 bnd (gua v8 true (Qb .eql 0 v11 v14) (some (.tup []))) fun v16 =>
 bnd (QX v8 v16 (.bool false)) fun v17 =>
 bnd (gua v17 true (Qd true 6 h15 v0) (some (.tup []))) fun v18 =>
 bnd (gua v17 true (QK t1) (some (.tup []))) fun v19 =>
 bcall (gua v17 true (E YG [v18,v19] h15) (some (.ret (.tup []),h15))) (fun v20 h21 =>
 bnd (gua v17 true (bnd (Qd true 6 h21 v0) fun v22 => sch (sam (Qd true 6 h15 v0) v22) (
 some v22)) (some (.tup []))) fun v22 =>
 bnd (gua v17 true (QK t1) (some (.tup []))) fun v23 =>
 bcall (gua v17 true (E KA [v22,v23] h21) (some (.ret (.tup []),h21))) (fun v24 h25 =>
 bcall (gua v17 true (E Ju [v20,v24] h25) (some (.ret (.tup []),h25))) (fun v26 h27 =>
 bnd (QX v17 v26 (.bool false)) fun v28 =>
 rt false base v28 h27)
 (fun v26 h27 => pn false base v26 h27))
 (fun v24 h25 => pn false base v24 h25))
 (fun v20 h21 => sch (tlb (gua v17 true (Qd true 6 h15 v0) (some (.tup []))) fun v29 => tlb (gua v17 true (QK t1) (some (.tup []))) fun v30 => true) (pn false base v20 h21)))
 (fun v14 h15 => pn false base v14 h15))
 (fun v11 h12 => sch (tlb (gua v8 true (Qd true 6 h9 v0) (some (.tup []))) fun v31 => true) (pn false base v11 h12)))
 (fun v8 h9 => pn false base v8 h9)))
 (fun v3 h4 => pn false base v3 h4) := by kernel_rfl
theorem Qjs (t0 t1 : V) (H : Qa) : E X3 [t0,t1] H = Qc7 H.length t0 t1 H := (QR Tryd.func3 (by kernel_rfl) (by kernel_rfl) (by kernel_rfl)).trans (by kernel_rfl)
def V3 : Code := QO Tryd.f4
def G9 : Ks := [(4,[5,6,7])]
def MM (base : Nat) : KC (Out × Qa) := QN Tryd.prog D false base 45 Tryd.f4.results.toList
def Ei (base : Nat) (c : Code) (k : KC (Out × Qa)) (t : Ts) (H : Qa) (d : Ds) : Option (Out × Qa) := xC Tryd.prog base false G9 E 45 c k t H d
def Ec (base : Nat) (t5 t6 t7 : V) (H : Qa) : Option (Out × Qa) :=
Qt (fun t H d again => Ei base (cAt [1,1,1,0,1,0,0] V3) (Ql G9 (cAt [1,1,1,0,1,0,0] V3) again ((Qe 0 ((Qg (fun _ t => Ei base (cAt [1,1,1,1] V3) (MM base) (Qf G9 (cAt [1,1,1,1] V3) t)) (MM base)))))) t H d) [(5,t5),(6,t6),(7,t7)] H []
theorem Tu (base : Nat) (t5 t6 t7 : V) (H : Qa) : Ec base t5 t6 t7 H =
 bnd (UB t6) fun v8 =>
 bnd (Qb .lss 6 t7 v8) fun v9 =>
 cnd v9
 (bnd (Qd true 6 H t5) fun v10 =>
 bnd (Km t6 t7) fun v11 =>
 bnd (Yc .i64 v11) fun v12 =>
 bcall (E YG [v10,v12] H) (fun v13 h14 =>
 bnd (Qd true 6 h14 t5) fun v15 =>
 sch (sam (Qd true 6 H t5) v15) (
 bnd (Km t6 t7) fun v16 =>
 bnd (Yc .i64 v16) fun v17 =>
 bcall (E KA [v15,v17] h14) (fun v18 h19 =>
 beff (QB h19 (.agg [(.int .i64 0),(.int .u64 0),(.int .u64 0),(.int .u64 0),(.int .u64 0),.nils])) fun v20 h21 =>
 sch (sam (Qd true 6 h21 t5) v15) (
 sch (sam (Qd true 6 h21 t5) v10) (
 beff (QB h21 (.agg [(.int .i64 0),(.int .u64 0),(.int .u64 0),(.int .u64 0),(.int .u64 0),.nils])) fun v22 h23 =>
 sch (sam (Qd true 6 h23 t5) v15) (
 sch (sam (Qd true 6 h23 t5) v10) (
 beff (Qs base 6 h23 v20 v13) fun v24 h25 =>
 beff (Qs base 6 h25 v22 v18) fun v26 h27 =>
 bnd (Qd true 6 h27 v20) fun v28 =>
 bnd (Qd true 6 h27 v22) fun v29 =>
 bcall (E Ju [v28,v29] h27) (fun v30 h31 =>
 bnd (oUn .not v30) fun v32 =>
 bnd (gua v32 false (Qd true 6 h31 v20) (some (.tup []))) fun v33 =>
 bcall (gua v32 false (E Jq [v33] h31) (some (.ret (.tup []),h31))) (fun v34 h35 =>
 bnd (gua v32 false (bnd (Qd true 6 h35 v22) fun v36 => sch (sam (Qd true 6 h31 v22) v36) (
 some v36)) (some (.tup []))) fun v36 =>
 bcall (gua v32 false (E Kp [v36] h35) (some (.ret (.tup []),h35))) (fun v37 h38 =>
 bnd (gua v32 false (Qb .neq 0 v34 v37) (some (.tup []))) fun v39 =>
 bnd (QX v32 (.bool true) v39) fun v40 =>
 cnd v40
 (rt false base (.bool false) h38)
 (bnd (Qd true 6 h38 v20) fun v41 =>
 beff (Qs base 6 h38 t5 v41) fun v42 h43 =>
 bnd (Qb .add 6 t7 (.int .i64 1)) fun v44 =>
 Ec base t5 t6 v44 h43))
 (fun v37 h38 => pn false base v37 h38))
 (fun v34 h35 => sch (tlb (gua v32 false (Qd true 6 h31 v22) (some (.tup []))) fun v45 => true) (pn false base v34 h35)))
 (fun v30 h31 => pn false base v30 h31))))))
 (fun v18 h19 => sch (false) (pn false base v18 h19))))
 (fun v13 h14 => sch (tlb (Qd true 6 H t5) fun v47 => tlb (QK t6) fun v48 => tlb (QK t7) fun v49 => tlb (Km v48 v49) fun v50 => tlb (Yc .i64 v50) fun v51 => false) (pn false base v13 h14)))
 (bcall (E U4 [] H) (fun v53 h54 =>
 rt false base v53 h54)
 (fun v53 h54 => pn false base v53 h54)) := (Za (cAt [1,1,1,0,1,0,0] V3) ((Qe 0 ((Qg (fun _ t => Ei base (cAt [1,1,1,1] V3) (MM base) (Qf G9 (cAt [1,1,1,1] V3) t)) (MM base))))) _ H []).trans (by kernel_rfl)
def Qhz (base : Nat) (t0 t1 : V) (H : Qa) : Option (Out × Qa) := Ei base V3 (MM base) [(0,t0),(1,t1)] H []
theorem QiY (base : Nat) (t0 t1 : V) (H : Qa) : Qhz base t0 t1 H =
 bcall (E RO [t0,(.int .i64 0)] H) (fun v0 h1 =>
 beff (QB h1 (.agg [(.int .i64 0),(.int .u64 0),(.int .u64 0),(.int .u64 0),(.int .u64 0),.nils])) fun v2 h3 =>
 beff (Qs base 6 h3 v2 v0) fun v4 h5 =>
 bcall (E VI [t1,(.int .i64 5)] h5) (fun v6 h7 =>
 Ec base v2 v6 (.int .i64 0) h7)
 (fun v6 h7 => pn false base v6 h7))
 (fun v0 h1 => pn false base v0 h1) := by kernel_rfl
theorem Qo6 (t0 t1 : V) (H : Qa) : E Qa6 [t0,t1] H = Qhz H.length t0 t1 H := (QR Tryd.func4 (by kernel_rfl) (by kernel_rfl) (by kernel_rfl)).trans (by kernel_rfl)
def QnP : Code := QO Tryd.f7
def QnQ : Ks := []
def Qj3 (base : Nat) : KC (Out × Qa) := QN Tryd.prog D false base 46 Tryd.f7.results.toList
def QnH (base : Nat) (c : Code) (k : KC (Out × Qa)) (t : Ts) (H : Qa) (d : Ds) : Option (Out × Qa) := xC Tryd.prog base false QnQ E 46 c k t H d
def QhV (base : Nat) (t0 t1 t2 : V) (H : Qa) : Option (Out × Qa) := QnH base QnP (Qj3 base) [(0,t0),(1,t1),(2,t2)] H []
theorem QpM (base : Nat) (t0 t1 t2 : V) (H : Qa) : QhV base t0 t1 t2 H =
 bcall (E U4 [] H) (fun v0 h1 =>
 bnd (oUn .not v0) fun v2 =>
 cnd v2
 (rt false base (.bool false) h1)
 (bcall (E RO [t0,(.int .i64 0)] h1) (fun v3 h4 =>
 beff (QB h4 (.agg [(.int .i64 0),(.int .u64 0),(.int .u64 0),(.int .u64 0),(.int .u64 0),.nils])) fun v5 h6 =>
 beff (Qs base 6 h6 v5 v3) fun v7 h8 =>
 bcall (E VI [t2,(.int .i64 5)] h8) (fun v9 h10 =>
 bnd (Yc .i64 t1) fun v11 =>
 bnd (Qb .rem 6 v11 (.int .i64 4)) fun v12 =>
 bnd (Qb .add 6 (.int .i64 97) v12) fun v13 =>
 bnd (gua v0 true (Qd true 6 h10 v5) (some (.tup []))) fun v14 =>
 bnd (gua v0 true (QK v13) (some (.tup []))) fun v15 =>
 bcall (gua v0 true (E YG [v14,v15] h10) (some (.ret (.tup []),h10))) (fun v16 h17 =>
 bnd (gua v0 true (QK v9) (some (.tup []))) fun v18 =>
 bcall (gua v0 true (E Un [v16,v18] h17) (some (.ret (.tup []),h17))) (fun v19 h20 =>
 bnd (gua v0 true (bnd (Qd true 6 h20 v5) fun v21 => sch (sam (Qd true 6 h17 v5) v21) (
 sch (sam (Qd true 6 h10 v5) v21) (
 some v21))) (some (.tup []))) fun v21 =>
 bnd (gua v0 true (QK v13) (some (.tup []))) fun v22 =>
 bnd (gua v0 true (Yc .u8 v22) (some (.tup []))) fun v23 =>
 bnd (gua v0 true (Zr 1 1 (.int .u8 0) [(0,v23)]) (some (.tup []))) fun v24 =>
 bnd (gua v0 true (bnd (JO h20 v24) fun v25 => sch (sam (JO h17 v24) v25) (
 sch (sam (JO h10 v24) v25) (
 some v25))) (some (.tup []))) fun v25 =>
 bnd (gua v0 true (QK v9) (some (.tup []))) fun v26 =>
 bnd (gua v0 true (Qb .add 6 v25 v26) (some (.tup []))) fun v27 =>
 bcall (gua v0 true (E Un [v21,v27] h20) (some (.ret (.tup []),h20))) (fun v28 h29 =>
 bnd (gua v0 true (Qb .eql 0 v19 v28) (some (.tup []))) fun v30 =>
 bnd (QX v0 v30 (.bool false)) fun v31 =>
 bnd (gua v31 true (Qd true 6 h29 v5) (some (.tup []))) fun v32 =>
 bcall (gua v31 true (E Un [v32,(.str [])] h29) (some (.ret (.tup []),h29))) (fun v33 h34 =>
 bnd (gua v31 true (bnd (Qd true 6 h34 v5) fun v35 => sch (sam (Qd true 6 h29 v5) v35) (
 some v35)) (some (.tup []))) fun v35 =>
 bcall (gua v31 true (E Jq [v35] h34) (some (.ret (.tup []),h34))) (fun v36 h37 =>
 bnd (gua v31 true (Qb .eql 0 v33 v36) (some (.tup []))) fun v38 =>
 bnd (QX v31 v38 (.bool false)) fun v39 =>
 rt false base v39 h37)
 (fun v36 h37 => pn false base v36 h37))
 (fun v33 h34 => sch (tlb (gua v31 true (Qd true 6 h29 v5) (some (.tup []))) fun v40 => true) (pn false base v33 h34)))
 (fun v28 h29 => pn false base v28 h29))
 (fun v19 h20 => sch (tlb (gua v0 true (bnd (Qd true 6 h17 v5) fun v41 => sch (sam (Qd true 6 h10 v5) v41) (some v41)) (some (.tup []))) fun v41 => tlb (gua v0 true (QK v13) (some (.tup []))) fun v42 => tlb (gua v0 true (Yc .u8 v42) (some (.tup []))) fun v43 => tlb (gua v0 true (Zr 1 1 (.int .u8 0) [(0,v43)]) (some (.tup []))) fun v44 => tlb (gua v0 true (bnd (JO h17 v44) fun v45 => sch (sam (JO h10 v44) v45) (some v45)) (some (.tup []))) fun v45 => tlb (gua v0 true (QK v9) (some (.tup []))) fun v46 => tlb (gua v0 true (Qb .add 6 v45 v46) (some (.tup []))) fun v47 => true) (pn false base v19 h20)))
 (fun v16 h17 => sch (tlb (gua v0 true (QK v9) (some (.tup []))) fun v48 => tlb (gua v0 true (Qd true 6 h10 v5) (some (.tup []))) fun v49 => tlb (gua v0 true (QK v13) (some (.tup []))) fun v50 => tlb (gua v0 true (Yc .u8 v50) (some (.tup []))) fun v51 => tlb (gua v0 true (Zr 1 1 (.int .u8 0) [(0,v51)]) (some (.tup []))) fun v52 => tlb (gua v0 true (JO h10 v52) (some (.tup []))) fun v53 => tlb (gua v0 true (QK v9) (some (.tup []))) fun v54 => tlb (gua v0 true (Qb .add 6 v53 v54) (some (.tup []))) fun v55 => true) (pn false base v16 h17)))
 (fun v9 h10 => pn false base v9 h10))
 (fun v3 h4 => pn false base v3 h4)))
 (fun v0 h1 => pn false base v0 h1) := by kernel_rfl
theorem Qru (t0 t1 t2 : V) (H : Qa) : E Qf9 [t0,t1,t2] H = QhV H.length t0 t1 t2 H := (QR Tryd.func7 (by kernel_rfl) (by kernel_rfl) (by kernel_rfl)).trans (by kernel_rfl)
def W0 : Code := QO Tryd.f8
def Gq : Ks := [(7,[5,6,7,8])]
def N5 (base : Nat) : KC (Out × Qa) := QN Tryd.prog D false base 32 Tryd.f8.results.toList
def FR (base : Nat) (c : Code) (k : KC (Out × Qa)) (t : Ts) (H : Qa) (d : Ds) : Option (Out × Qa) := xC Tryd.prog base false Gq E 32 c k t H d
def PK (base : Nat) (t5 t6 t7 t8 : V) (H : Qa) : Option (Out × Qa) :=
Qt (fun t H d again => FR base (cAt [1,1,1,1,1,0,1,0,0] W0) (Ql Gq (cAt [1,1,1,1,1,0,1,0,0] W0) again ((Qe 0 ((Qg (fun _ t => FR base (cAt [1,1,1,1,1,1] W0) (N5 base) (Qf Gq (cAt [1,1,1,1,1,1] W0) t)) (N5 base)))))) t H d) [(5,t5),(6,t6),(7,t7),(8,t8)] H []
theorem QdK (base : Nat) (t5 t6 t7 t8 : V) (H : Qa) : PK base t5 t6 t7 t8 H =
 bnd (UB t7) fun v11 =>
 bnd (Qb .lss 6 t8 v11) fun v12 =>
 cnd v12
 (bnd (Qd true 6 H t6) fun v13 =>
 bnd (Km t7 t8) fun v14 =>
 bnd (Yc .i64 v14) fun v15 =>
 bcall (E YG [v13,v15] H) (fun v16 h17 =>
 beff (Qs base 6 h17 t6 v16) fun v18 h19 =>
 bnd (Qd true 6 h19 t6) fun v20 =>
 bcall (E Rz [v20] h19) (fun v21 h22 =>
 bnd (oUn .not v21) fun v23 =>
 cnd v23
 (rt false base (.bool false) h22)
 (bnd (Qb .add 6 t8 (.int .i64 1)) fun v24 =>
 PK base t5 t6 t7 v24 h22))
 (fun v21 h22 => pn false base v21 h22))
 (fun v16 h17 => pn false base v16 h17))
 (rt false base t5 H) := (Za (cAt [1,1,1,1,1,0,1,0,0] W0) ((Qe 0 ((Qg (fun _ t => FR base (cAt [1,1,1,1,1,1] W0) (N5 base) (Qf Gq (cAt [1,1,1,1,1,1] W0) t)) (N5 base))))) _ H []).trans (by kernel_rfl)
def QaH (base : Nat) (t0 t1 : V) (H : Qa) : Option (Out × Qa) := FR base W0 (N5 base) [(0,t0),(1,t1)] H []
theorem Qjx (base : Nat) (t0 t1 : V) (H : Qa) : QaH base t0 t1 H =
 bcall (E U4 [] H) (fun v0 h1 =>
 bnd (oUn .not v0) fun v2 =>
 cnd v2
 (rt false base (.bool false) h1)
 (bcall (E RO [t0,(.int .i64 0)] h1) (fun v3 h4 =>
 beff (QB h4 (.agg [(.int .i64 0),(.int .u64 0),(.int .u64 0),(.int .u64 0),(.int .u64 0),.nils])) fun v5 h6 =>
 beff (Qs base 6 h6 v5 v3) fun v7 h8 =>
 bcall (E VI [t1,(.int .i64 4)] h8) (fun v9 h10 =>
 PK base v0 v5 v9 (.int .i64 0) h10)
 (fun v9 h10 => pn false base v9 h10))
 (fun v3 h4 => pn false base v3 h4)))
 (fun v0 h1 => pn false base v0 h1) := by kernel_rfl
theorem Qnf (t0 t1 : V) (H : Qa) : E QaA [t0,t1] H = QaH H.length t0 t1 H := (QR Tryd.func8 (by kernel_rfl) (by kernel_rfl) (by kernel_rfl)).trans (by kernel_rfl)
def VO : Code := QO Tryd.f11
def Fl : Ks := [(3,[1,3,4])]
def N2 (base : Nat) : KC (Out × Qa) := QN Tryd.prog D false base 21 Tryd.f11.results.toList
def PG (base : Nat) (c : Code) (k : KC (Out × Qa)) (t : Ts) (H : Qa) (d : Ds) : Option (Out × Qa) := xC Tryd.prog base false Fl E 21 c k t H d
def En (base : Nat) (t1 t3 t4 : V) (H : Qa) : Option (Out × Qa) :=
Qt (fun t H d again => PG base (cAt [1,1,0,1,0,0] VO) (Ql Fl (cAt [1,1,0,1,0,0] VO) again ((Qe 0 ((Qg (fun _ t => PG base (cAt [1,1,1] VO) (N2 base) (Qf Fl (cAt [1,1,1] VO) t)) (N2 base)))))) t H d) [(1,t1),(3,t3),(4,t4)] H []
theorem QcP (base : Nat) (t1 t3 t4 : V) (H : Qa) : En base t1 t3 t4 H =
 bnd (Qp t1 5) fun v2 =>
 bnd (Qd false 1 H v2) fun v3 =>
 bnd (QM v3) fun v4 =>
 bnd (Qb .lss 6 t4 v4) fun v5 =>
 cnd v5
 (bnd (Qp t1 5) fun v6 =>
 bnd (Qd false 1 H v6) fun v7 =>
 bnd (Qx 6 v7 t4) fun v8 =>
 bnd (Qd true 6 H v8) fun v9 =>
 bcall (E Bh [v9] H) (fun v10 h11 =>
 bnd (Qb .add 6 t3 v10) fun v12 =>
 bnd (Qb .add 6 t4 (.int .i64 1)) fun v13 =>
 En base t1 v12 v13 h11)
 (fun v10 h11 => pn false base v10 h11))
 (rt false base t3 H) := (Za (cAt [1,1,0,1,0,0] VO) ((Qe 0 ((Qg (fun _ t => PG base (cAt [1,1,1] VO) (N2 base) (Qf Fl (cAt [1,1,1] VO) t)) (N2 base))))) _ H []).trans (by kernel_rfl)
def Qhy (base : Nat) (t0 : V) (H : Qa) : Option (Out × Qa) := PG base VO (N2 base) [(0,t0)] H []
theorem Qno (base : Nat) (t0 : V) (H : Qa) : Qhy base t0 H =
 beff (QB H t0) fun v0 h1 =>
 En base v0 (.int .i64 1) (.int .i64 0) h1 := by kernel_rfl
theorem Qjn (t0 : V) (H : Qa) : E Bh [t0] H = Qhy H.length t0 H := (QR Tryd.func11 (by kernel_rfl) (by kernel_rfl) (by kernel_rfl)).trans (by kernel_rfl)
def QqX : Code := QO Tryd.f12
def QlS : Ks := []
def Qm1 (base : Nat) : KC (Out × Qa) := QN Tryd.prog D false base 42 Tryd.f12.results.toList
def Qmo (base : Nat) (c : Code) (k : KC (Out × Qa)) (t : Ts) (H : Qa) (d : Ds) : Option (Out × Qa) := xC Tryd.prog base false QlS E 42 c k t H d
def TF (base : Nat) (H : Qa) : Option (Out × Qa) := Qmo base QqX (Qm1 base) [] H []
theorem QqB (base : Nat) (H : Qa) : TF base  H =
 bcall (E BJ [(.int .i64 97),(.int .i64 97)] H) (fun v0 h1 =>
 bnd (Zj [(.int .i64 0),(.int .u64 0),(.int .u64 0),(.int .u64 0),(.int .u64 0),.nils] [(0,1),(1,4),(5,1)] [(0,(.int .i64 2)),(1,v0)]) fun v2 =>
 bcall (E BJ [(.int .i64 98),(.int .i64 98)] h1) (fun v3 h4 =>
 bnd (Zj [(.int .i64 0),(.int .u64 0),(.int .u64 0),(.int .u64 0),(.int .u64 0),.nils] [(0,1),(1,4),(5,1)] [(0,(.int .i64 2)),(1,v3)]) fun v5 =>
 beff (QB h4 (.agg [(.int .i64 0),(.int .u64 0),(.int .u64 0),(.int .u64 0),(.int .u64 0),.nils])) fun v6 h7 =>
 beff (QB h7 (.agg [(.int .i64 0),(.int .u64 0),(.int .u64 0),(.int .u64 0),(.int .u64 0),.nils])) fun v8 h9 =>
 beff (Qs base 6 h9 v6 v2) fun v10 h11 =>
 beff (Qs base 6 h11 v8 v5) fun v12 h13 =>
 bnd (Qd true 6 h13 v6) fun v14 =>
 bcall (E WC [v14] h13) (fun v15 h16 =>
 bnd (Qd true 6 h16 v8) fun v17 =>
 sch (sam (Qd true 6 h13 v8) v17) (
 bnd (Zr 6 2 (.agg [(.int .i64 0),(.int .u64 0),(.int .u64 0),(.int .u64 0),(.int .u64 0),(.vs [])]) [(0,v15),(1,v17)]) fun v18 =>
 bcall (E VT [v18] h16) (fun v19 h20 =>
 beff (QB h20 (.agg [(.int .i64 0),(.int .u64 0),(.int .u64 0),(.int .u64 0),(.int .u64 0),.nils])) fun v21 h22 =>
 sch (sam (Qd true 6 h22 v8) v17) (
 sch (sam (Qd true 6 h22 v6) v14) (
 beff (Qs base 6 h22 v21 v19) fun v23 h24 =>
 bnd (Qd true 6 h24 v21) fun v25 =>
 bcall (E YG [v25,(.int .i64 97)] h24) (fun v26 h27 =>
 bnd (bnd (Qd true 6 h27 v21) fun v28 => sch (sam (Qd true 6 h24 v21) v28) (
 some v28)) fun v28 =>
 bcall (E Ju [v26,v28] h27) (fun v29 h30 =>
 bnd (gua v29 true (Qd true 6 h30 v21) (some (.tup []))) fun v31 =>
 bcall (gua v29 true (E YG [v31,(.int .i64 98)] h30) (some (.ret (.tup []),h30))) (fun v32 h33 =>
 bnd (gua v29 true (Eh 0 false 1 v32) (some (.tup []))) fun v34 =>
 bnd (gua v29 true (Qb .eql 6 v34 (.int .i64 1)) (some (.tup []))) fun v35 =>
 bnd (QX v29 v35 (.bool false)) fun v36 =>
 bnd (gua v36 true (Qd true 6 h33 v21) (some (.tup []))) fun v37 =>
 bcall (gua v36 true (E Jq [v37] h33) (some (.ret (.tup []),h33))) (fun v38 h39 =>
 bnd (gua v36 true (oUn .not v38) (some (.tup []))) fun v40 =>
 bnd (QX v36 v40 (.bool false)) fun v41 =>
 bnd (gua v41 true (Qd true 6 h39 v21) (some (.tup []))) fun v42 =>
 bcall (gua v41 true (E Un [v42,(.str [97,97,98])] h39) (some (.ret (.tup []),h39))) (fun v43 h44 =>
 bnd (QX v41 v43 (.bool false)) fun v45 =>
 bnd (gua v45 true (Qd true 6 h44 v21) (some (.tup []))) fun v46 =>
 bcall (gua v45 true (E Un [v46,(.str [97,98,97])] h44) (some (.ret (.tup []),h44))) (fun v47 h48 =>
 bnd (gua v45 true (oUn .not v47) (some (.tup []))) fun v49 =>
 bnd (QX v45 v49 (.bool false)) fun v50 =>
 bnd (gua v50 true (Qd true 6 h48 v6) (some (.tup []))) fun v51 =>
 bcall (gua v50 true (E WC [v51] h48) (some (.ret (.tup []),h48))) (fun v52 h53 =>
 bcall (gua v50 true (E Jq [v52] h53) (some (.ret (.tup []),h53))) (fun v54 h55 =>
 bnd (QX v50 v54 (.bool false)) fun v56 =>
 rt false base v56 h55)
 (fun v54 h55 => pn false base v54 h55))
 (fun v52 h53 => pn false base v52 h53))
 (fun v47 h48 => pn false base v47 h48))
 (fun v43 h44 => pn false base v43 h44))
 (fun v38 h39 => pn false base v38 h39))
 (fun v32 h33 => pn false base v32 h33))
 (fun v29 h30 => pn false base v29 h30))
 (fun v26 h27 => sch (tlb (Qd true 6 h24 v21) fun v57 => true) (pn false base v26 h27)))))
 (fun v19 h20 => sch (false) (pn false base v19 h20))))
 (fun v15 h16 => sch (tlb (Qd true 6 h13 v8) fun v59 => false) (pn false base v15 h16)))
 (fun v3 h4 => pn false base v3 h4))
 (fun v0 h1 => pn false base v0 h1) := by kernel_rfl
theorem Qiq (H : Qa) : E U4 [] H = TF H.length  H := (QR Tryd.func12 (by kernel_rfl) (by kernel_rfl) (by kernel_rfl)).trans (by kernel_rfl)
def T1 : Code := QO Tryd.f13
def Qro : Ks := [(9,[])]
def Qg6 (base : Nat) : KC (Out × Qa) := QN Tryd.prog D false base 19 Tryd.f13.results.toList
def Qf1 (base : Nat) (c : Code) (k : KC (Out × Qa)) (t : Ts) (H : Qa) (d : Ds) : Option (Out × Qa) := xC Tryd.prog base false Qro E 19 c k t H d
def PZ (base : Nat) (H : Qa) : Option (Out × Qa) :=
Qf1 base (cAt [1,1] T1) (Qg6 base) [] H []
theorem QnL (base : Nat) (H : Qa) : PZ base  H =
 rt false base (.bool false) H := by kernel_rfl
def QhD (base : Nat) (t0 : V) (H : Qa) : Option (Out × Qa) := Qf1 base T1 (Qg6 base) [(0,t0)] H []
theorem QnI (base : Nat) (t0 : V) (H : Qa) : QhD base t0 H =
 beff (QB H t0) fun v0 h1 =>
 bnd (Qp v0 0) fun v2 =>
 bnd (Qd false 1 h1 v2) fun v3 =>
 bnd (Qb .eql 6 v3 (.int .i64 1)) fun v4 =>
 cnd v4
 (cnd v4
 (rt false base (.bool true) h1)
 (bnd (Qb .eql 6 v3 (.int .i64 3)) fun v5 =>
 cnd v5
 (bnd (Qp v0 5) fun v6 =>
 bnd (Qd false 1 h1 v6) fun v7 =>
 bcall (E U3 [v7,(.fn Nq [])] h1) (fun v8 h9 =>
 bnd (oUn .not v8) fun v10 =>
 rt false base v10 h9)
 (fun v8 h9 => pn false base v8 h9))
 (bnd (Qb .eql 6 v3 (.int .i64 4)) fun v11 =>
 cnd v11
 (bnd (Qp v0 5) fun v12 =>
 bnd (Qd false 1 h1 v12) fun v13 =>
 bcall (E U3 [v13,(.fn Jq [])] h1) (fun v14 h15 =>
 rt false base v14 h15)
 (fun v14 h15 => pn false base v14 h15))
 (PZ base  h1))))
 (bnd (Qb .eql 6 v3 (.int .i64 5)) fun v16 =>
 cnd v16
 (rt false base (.bool true) h1)
 (bnd (Qb .eql 6 v3 (.int .i64 3)) fun v17 =>
 cnd v17
 (bnd (Qp v0 5) fun v18 =>
 bnd (Qd false 1 h1 v18) fun v19 =>
 bcall (E U3 [v19,(.fn Nq [])] h1) (fun v20 h21 =>
 bnd (oUn .not v20) fun v22 =>
 rt false base v22 h21)
 (fun v20 h21 => pn false base v20 h21))
 (bnd (Qb .eql 6 v3 (.int .i64 4)) fun v23 =>
 cnd v23
 (bnd (Qp v0 5) fun v24 =>
 bnd (Qd false 1 h1 v24) fun v25 =>
 bcall (E U3 [v25,(.fn Jq [])] h1) (fun v26 h27 =>
 rt false base v26 h27)
 (fun v26 h27 => pn false base v26 h27))
 (PZ base  h1)))) := by kernel_rfl
theorem Qmi (t0 : V) (H : Qa) : E Jq [t0] H = QhD H.length t0 H := (QR Tryd.func13 (by kernel_rfl) (by kernel_rfl) (by kernel_rfl)).trans (by kernel_rfl)
def Z8 : Code := QO Tryd.f14
def Kf : Ks := [(7,[1,3]),(14,[1,4]),(18,[])]
def Jp (base : Nat) : KC (Out × Qa) := QN Tryd.prog D false base 41 Tryd.f14.results.toList
def JU (base : Nat) (c : Code) (k : KC (Out × Qa)) (t : Ts) (H : Qa) (d : Ds) : Option (Out × Qa) := xC Tryd.prog base false Kf E 41 c k t H d
def Ny (base : Nat) (t1 t3 : V) (H : Qa) : Option (Out × Qa) :=
Qt (fun t H d again => JU base (cAt [1,0,1,0,1,1,1,0,0,1,0,0] Z8) (Ql Kf (cAt [1,0,1,0,1,1,1,0,0,1,0,0] Z8) again ((Qe 1 ((Qg (fun _ t => JU base (cAt [1,0,1,0,1,1,1,0,1] Z8) ((Qe 0 ((Qg (fun _ t => JU base (cAt [1,1] Z8) (Jp base) (Qf Kf (cAt [1,1] Z8) t)) (Jp base))))) (Qf Kf (cAt [1,0,1,0,1,1,1,0,1] Z8) t)) ((Qe 0 ((Qg (fun _ t => JU base (cAt [1,1] Z8) (Jp base) (Qf Kf (cAt [1,1] Z8) t)) (Jp base)))))))))) t H d) [(1,t1),(3,t3)] H []
theorem QaZ (base : Nat) (t1 t3 : V) (H : Qa) : Ny base t1 t3 H =
 bnd (Qp t1 5) fun v6 =>
 bnd (Qd false 1 H v6) fun v7 =>
 bnd (QM v7) fun v8 =>
 bnd (Qb .lss 6 t3 v8) fun v9 =>
 cnd v9
 (bnd (Qp t1 5) fun v10 =>
 bnd (Qd false 1 H v10) fun v11 =>
 bnd (Qx 6 v11 t3) fun v12 =>
 bnd (Qd true 6 H v12) fun v13 =>
 bcall (E Kp [v13] H) (fun v14 h15 =>
 bnd (oUn .not v14) fun v16 =>
 cnd v16
 (rt false base (.bool false) h15)
 (bnd (Qb .add 6 t3 (.int .i64 1)) fun v17 =>
 Ny base t1 v17 h15))
 (fun v14 h15 => pn false base v14 h15))
 (rt false base (.bool true) H) := (Za (cAt [1,0,1,0,1,1,1,0,0,1,0,0] Z8) ((Qe 1 ((Qg (fun _ t => JU base (cAt [1,0,1,0,1,1,1,0,1] Z8) ((Qe 0 ((Qg (fun _ t => JU base (cAt [1,1] Z8) (Jp base) (Qf Kf (cAt [1,1] Z8) t)) (Jp base))))) (Qf Kf (cAt [1,0,1,0,1,1,1,0,1] Z8) t)) ((Qe 0 ((Qg (fun _ t => JU base (cAt [1,1] Z8) (Jp base) (Qf Kf (cAt [1,1] Z8) t)) (Jp base))))))))) _ H []).trans (by kernel_rfl)
def Nz (base : Nat) (t1 t4 : V) (H : Qa) : Option (Out × Qa) :=
Qt (fun t H d again => JU base (cAt [1,0,1,0,1,1,1,1,1,0,1,0,0] Z8) (Ql Kf (cAt [1,0,1,0,1,1,1,1,1,0,1,0,0] Z8) again ((Qe 3 ((Qe 0 ((Qg (fun _ t => JU base (cAt [1,1] Z8) (Jp base) (Qf Kf (cAt [1,1] Z8) t)) (Jp base)))))))) t H d) [(1,t1),(4,t4)] H []
def NL (base : Nat) (H : Qa) : Option (Out × Qa) :=
JU base (cAt [1,1] Z8) (Jp base) [] H []
theorem QdI (base : Nat) (H : Qa) : NL base  H =
 rt false base (.bool false) H := by kernel_rfl
theorem QdB (base : Nat) (t1 t4 : V) (H : Qa) : Nz base t1 t4 H =
 bnd (Qp t1 5) fun v19 =>
 bnd (Qd false 1 H v19) fun v20 =>
 bnd (QM v20) fun v21 =>
 bnd (Qb .lss 6 t4 v21) fun v22 =>
 cnd v22
 (bnd (Qp t1 5) fun v23 =>
 bnd (Qd false 1 H v23) fun v24 =>
 bnd (Qx 6 v24 t4) fun v25 =>
 bnd (Qd true 6 H v25) fun v26 =>
 bcall (E Kp [v26] H) (fun v27 h28 =>
 cnd v27
 (rt false base (.bool true) h28)
 (bnd (Qb .add 6 t4 (.int .i64 1)) fun v29 =>
 Nz base t1 v29 h28))
 (fun v27 h28 => pn false base v27 h28))
 (NL base  H) := (Za (cAt [1,0,1,0,1,1,1,1,1,0,1,0,0] Z8) ((Qe 3 ((Qe 0 ((Qg (fun _ t => JU base (cAt [1,1] Z8) (Jp base) (Qf Kf (cAt [1,1] Z8) t)) (Jp base))))))) _ H []).trans (by kernel_rfl)
def TW (base : Nat) (t0 : V) (H : Qa) : Option (Out × Qa) := JU base Z8 (Jp base) [(0,t0)] H []
theorem Qoa (base : Nat) (t0 : V) (H : Qa) : TW base t0 H =
 beff (QB H t0) fun v0 h1 =>
 bnd (Qp v0 0) fun v2 =>
 bnd (Qd false 1 h1 v2) fun v3 =>
 bnd (Qb .eql 6 v3 (.int .i64 1)) fun v4 =>
 cnd v4
 (cnd v4
 (rt false base (.bool true) h1)
 (bnd (Qb .eql 6 v3 (.int .i64 3)) fun v5 =>
 cnd v5
 (Ny base v0 (.int .i64 0) h1)
 (bnd (Qb .eql 6 v3 (.int .i64 4)) fun v18 =>
 cnd v18
 (Nz base v0 (.int .i64 0) h1)
 (NL base  h1))))
 (bnd (Qb .eql 6 v3 (.int .i64 5)) fun v30 =>
 cnd v30
 (rt false base (.bool true) h1)
 (bnd (Qb .eql 6 v3 (.int .i64 3)) fun v31 =>
 cnd v31
 (Ny base v0 (.int .i64 0) h1)
 (bnd (Qb .eql 6 v3 (.int .i64 4)) fun v32 =>
 cnd v32
 (Nz base v0 (.int .i64 0) h1)
 (NL base  h1)))) := by kernel_rfl
theorem QkL (t0 : V) (H : Qa) : E Kp [t0] H = TW H.length t0 H := (QR Tryd.func14 (by kernel_rfl) (by kernel_rfl) (by kernel_rfl)).trans (by kernel_rfl)
def VP : Code := QO Tryd.f15
def Ef : Ks := [(4,[2,3,5])]
def M6 (base : Nat) : KC (Out × Qa) := QN Tryd.prog D false base 46 Tryd.f15.results.toList
def GT (base : Nat) (c : Code) (k : KC (Out × Qa)) (t : Ts) (H : Qa) (d : Ds) : Option (Out × Qa) := xC Tryd.prog base false Ef E 46 c k t H d
def Pq (base : Nat) (t2 t3 t5 : V) (H : Qa) : Option (Out × Qa) :=
Qt (fun t H d again => GT base (cAt [1,1,0,1,0,0] VP) (Ql Ef (cAt [1,1,0,1,0,0] VP) again ((Qe 0 ((Qg (fun _ t => GT base (cAt [1,1,1] VP) (M6 base) (Qf Ef (cAt [1,1,1] VP) t)) (M6 base)))))) t H d) [(2,t2),(3,t3),(5,t5)] H []
theorem QdY (base : Nat) (t2 t3 t5 : V) (H : Qa) : Pq base t2 t3 t5 H =
 bnd (Qp t2 5) fun v23 =>
 bnd (Qd false 1 H v23) fun v24 =>
 bnd (QM v24) fun v25 =>
 bnd (Qb .lss 6 t5 v25) fun v26 =>
 cnd v26
 (bnd (Qp t2 5) fun v27 =>
 bnd (Qd false 1 H v27) fun v28 =>
 bnd (Qx 6 v28 t5) fun v29 =>
 bnd (Qd true 6 H v29) fun v30 =>
 bnd (Qp t3 5) fun v31 =>
 bnd (Qd false 1 H v31) fun v32 =>
 bnd (Qx 6 v32 t5) fun v33 =>
 bnd (Qd true 6 H v33) fun v34 =>
 bcall (E Ju [v30,v34] H) (fun v35 h36 =>
 bnd (oUn .not v35) fun v37 =>
 cnd v37
 (rt false base (.bool false) h36)
 (bnd (Qb .add 6 t5 (.int .i64 1)) fun v38 =>
 Pq base t2 t3 v38 h36))
 (fun v35 h36 => pn false base v35 h36))
 (rt false base (.bool true) H) := (Za (cAt [1,1,0,1,0,0] VP) ((Qe 0 ((Qg (fun _ t => GT base (cAt [1,1,1] VP) (M6 base) (Qf Ef (cAt [1,1,1] VP) t)) (M6 base))))) _ H []).trans (by kernel_rfl)
def TD (base : Nat) (t0 t1 : V) (H : Qa) : Option (Out × Qa) := GT base VP (M6 base) [(0,t0),(1,t1)] H []
theorem QoM (base : Nat) (t0 t1 : V) (H : Qa) : TD base t0 t1 H =
 beff (QB H t0) fun v0 h1 =>
 beff (QB h1 t1) fun v2 h3 =>
 bnd (Qp v0 0) fun v4 =>
 bnd (Qd false 1 h3 v4) fun v5 =>
 bnd (Qp v2 0) fun v6 =>
 bnd (Qd false 1 h3 v6) fun v7 =>
 bnd (Qb .neq 6 v5 v7) fun v8 =>
 bnd (gua v8 false (Qp v0 1) (some (.tup []))) fun v9 =>
 bnd (gua v8 false (Qd true 4 h3 v9) (some (.tup []))) fun v10 =>
 bnd (gua v8 false (Qp v2 1) (some (.tup []))) fun v11 =>
 bnd (gua v8 false (Qd true 4 h3 v11) (some (.tup []))) fun v12 =>
 bnd (gua v8 false (Qb .neq 46 v10 v12) (some (.tup []))) fun v13 =>
 bnd (QX v8 (.bool true) v13) fun v14 =>
 bnd (gua v14 false (Qp v0 5) (some (.tup []))) fun v15 =>
 bnd (gua v14 false (Qd false 1 h3 v15) (some (.tup []))) fun v16 =>
 bnd (gua v14 false (QM v16) (some (.tup []))) fun v17 =>
 bnd (gua v14 false (Qp v2 5) (some (.tup []))) fun v18 =>
 bnd (gua v14 false (Qd false 1 h3 v18) (some (.tup []))) fun v19 =>
 bnd (gua v14 false (QM v19) (some (.tup []))) fun v20 =>
 bnd (gua v14 false (Qb .neq 6 v17 v20) (some (.tup []))) fun v21 =>
 bnd (QX v14 (.bool true) v21) fun v22 =>
 cnd v22
 (rt false base (.bool false) h3)
 (Pq base v0 v2 (.int .i64 0) h3) := by kernel_rfl
theorem Qi6 (t0 t1 : V) (H : Qa) : E Ju [t0,t1] H = TD H.length t0 t1 H := (QR Tryd.func15 (by kernel_rfl) (by kernel_rfl) (by kernel_rfl)).trans (by kernel_rfl)
def Qqw : Code := QO Tryd.f16
def QkN : Ks := []
def QmO (base : Nat) : KC (Out × Qa) := QN Tryd.prog D false base 50 Tryd.f16.results.toList
def Qn3 (base : Nat) (c : Code) (k : KC (Out × Qa)) (t : Ts) (H : Qa) (d : Ds) : Option (Out × Qa) := xC Tryd.prog base false QkN E 50 c k t H d
def Qe1 (base : Nat) (t0 t1 : V) (H : Qa) : Option (Out × Qa) := Qn3 base Qqw (QmO base) [(0,t0),(1,t1)] H []
theorem QiZ (base : Nat) (t0 t1 : V) (H : Qa) : Qe1 base t0 t1 H =
 beff (QB H t0) fun v0 h1 =>
 beff (QB h1 (.agg [(.int .i64 0),(.int .u64 0),(.int .u64 0),(.int .u64 0),(.int .u64 0),.nils])) fun v2 h3 =>
 bnd (Qp v0 0) fun v4 =>
 bnd (Qd false 1 h3 v4) fun v5 =>
 bnd (Qb .eql 6 v5 (.int .i64 2)) fun v6 =>
 bnd (gua v6 true (Qp v0 1) (some (.tup []))) fun v7 =>
 bnd (gua v6 true (Qd true 4 h3 v7) (some (.tup []))) fun v8 =>
 bnd (gua v6 true (QK t1) (some (.tup []))) fun v9 =>
 bcall (gua v6 true (E Dw [v8,v9] h3) (some (.ret (.tup []),h3))) (fun v10 h11 =>
 bnd (QX v6 v10 (.bool false)) fun v12 =>
 cnd v12
 (bnd (Zj [(.int .i64 0),(.int .u64 0),(.int .u64 0),(.int .u64 0),(.int .u64 0),.nils] [(0,1),(1,4),(5,1)] [(0,(.int .i64 1))]) fun v13 =>
 beff (Qs base 6 h11 v2 v13) fun v14 h15 =>
 bnd (Qd true 6 h15 v2) fun v16 =>
 rt false base v16 h15)
 (bnd (Qp v0 0) fun v17 =>
 bnd (Qd false 1 h11 v17) fun v18 =>
 bnd (Qb .eql 6 v18 (.int .i64 3)) fun v19 =>
 cnd v19
 (bnd (Qd true 6 h11 v0) fun v20 =>
 bcall (E DZ [v20,t1] h11) (fun v21 h22 =>
 beff (Qs base 6 h22 v2 v21) fun v23 h24 =>
 bnd (Qd true 6 h24 v2) fun v25 =>
 rt false base v25 h24)
 (fun v21 h22 => pn false base v21 h22))
 (bnd (Qp v0 0) fun v26 =>
 bnd (Qd false 1 h11 v26) fun v27 =>
 bnd (Qb .eql 6 v27 (.int .i64 4)) fun v28 =>
 cnd v28
 (bnd (Qd true 6 h11 v0) fun v29 =>
 bcall (E ER [v29,t1] h11) (fun v30 h31 =>
 beff (Qs base 6 h31 v2 v30) fun v32 h33 =>
 bnd (Qd true 6 h33 v2) fun v34 =>
 rt false base v34 h33)
 (fun v30 h31 => pn false base v30 h31))
 (bnd (Qp v0 0) fun v35 =>
 bnd (Qd false 1 h11 v35) fun v36 =>
 bnd (Qb .eql 6 v36 (.int .i64 5)) fun v37 =>
 bnd (gua v37 true (Qp v0 5) (some (.tup []))) fun v38 =>
 bnd (gua v37 true (Qd false 1 h11 v38) (some (.tup []))) fun v39 =>
 bnd (gua v37 true (QM v39) (some (.tup []))) fun v40 =>
 bnd (gua v37 true (Qb .eql 6 v40 (.int .i64 1)) (some (.tup []))) fun v41 =>
 bnd (QX v37 v41 (.bool false)) fun v42 =>
 cnd v42
 (bnd (Qp v0 5) fun v43 =>
 bnd (Qd false 1 h11 v43) fun v44 =>
 bnd (Qx 6 v44 (.int .i64 0)) fun v45 =>
 bnd (Qd true 6 h11 v45) fun v46 =>
 bcall (E YG [v46,t1] h11) (fun v47 h48 =>
 bnd (bnd (Qd true 6 h48 v0) fun v49 => sch (sam (Qd true 6 h11 v0) v49) (
 some v49)) fun v49 =>
 bnd (Zr 6 2 (.agg [(.int .i64 0),(.int .u64 0),(.int .u64 0),(.int .u64 0),(.int .u64 0),(.vs [])]) [(0,v47),(1,v49)]) fun v50 =>
 bcall (E Px [v50] h48) (fun v51 h52 =>
 beff (Qs base 6 h52 v2 v51) fun v53 h54 =>
 bnd (Qd true 6 h54 v2) fun v55 =>
 rt false base v55 h54)
 (fun v51 h52 => pn false base v51 h52))
 (fun v47 h48 => sch (tlb (Qd true 6 h11 v0) fun v56 => true) (pn false base v47 h48)))
 (bnd (Zj [(.int .i64 0),(.int .u64 0),(.int .u64 0),(.int .u64 0),(.int .u64 0),.nils] [(0,1),(1,4),(5,1)] [(0,(.int .i64 0))]) fun v57 =>
 beff (Qs base 6 h11 v2 v57) fun v58 h59 =>
 bnd (Qd true 6 h59 v2) fun v60 =>
 rt false base v60 h59)))))
 (fun v10 h11 => pn false base v10 h11) := by kernel_rfl
theorem QqZ (t0 t1 : V) (H : Qa) : E YG [t0,t1] H = Qe1 H.length t0 t1 H := (QR Tryd.func16 (by kernel_rfl) (by kernel_rfl) (by kernel_rfl)).trans (by kernel_rfl)
def Zv : Code := QO Tryd.f17
def YY : Ks := [(8,[1,2,4,5,6]),(13,[4,5]),(17,[1,2,4,8,9]),(24,[4])]
def Yn (base : Nat) : KC (Out × Qa) := QN Tryd.prog D false base 93 Tryd.f17.results.toList
def Yz (base : Nat) (c : Code) (k : KC (Out × Qa)) (t : Ts) (H : Qa) (d : Ds) : Option (Out × Qa) := xC Tryd.prog base true YY E 93 c k t H d
def MC (base : Nat) (t4 : V) (H : Qa) : Option (Out × Qa) :=
Yz base (cAt [1,1] Zv) (Yn base) [(4,t4)] H []
theorem QlQ (base : Nat) (t4 : V) (H : Qa) : MC base t4 H =
 bnd (Zj [(.int .i64 0),(.int .u64 0),(.int .u64 0),(.int .u64 0),(.int .u64 0),.nils] [(0,1),(1,4),(5,1)] []) fun v15 =>
 beff (Qs base 6 H t4 v15) fun v16 h17 =>
 bnd (Qd true 6 h17 t4) fun v18 =>
 rt false base v18 h17 := by kernel_rfl
def PU (base : Nat) (t1 t2 t4 t5 t6 : V) (H : Qa) : Option (Out × Qa) :=
Qt (fun t H d again => Yz base (cAt [1,0,1,0,1,1,1,0,1,0,1,0,0] Zv) (Ql YY (cAt [1,0,1,0,1,1,1,0,1,0,1,0,0] Zv) again ((Qe 1 ((Qg (fun _ t => Yz base (cAt [1,0,1,0,1,1,1,0,1,1] Zv) ((Qe 0 ((Qg (fun _ t => Yz base (cAt [1,1] Zv) (Yn base) (Qf YY (cAt [1,1] Zv) t)) (Yn base))))) (Qf YY (cAt [1,0,1,0,1,1,1,0,1,1] Zv) t)) ((Qe 0 ((Qg (fun _ t => Yz base (cAt [1,1] Zv) (Yn base) (Qf YY (cAt [1,1] Zv) t)) (Yn base)))))))))) t H d) [(1,t1),(2,t2),(4,t4),(5,t5),(6,t6)] H []
def Ge (base : Nat) (t4 t5 : V) (H : Qa) : Option (Out × Qa) :=
Yz base (cAt [1,0,1,0,1,1,1,0,1,1] Zv) ((Qe 0 ((Qg (fun _ t => Yz base (cAt [1,1] Zv) (Yn base) (Qf YY (cAt [1,1] Zv) t)) (Yn base))))) [(4,t4),(5,t5)] H []
theorem QpT (base : Nat) (t4 t5 : V) (H : Qa) : Ge base t4 t5 H =
 bcall (E UY [t5] H) (fun v50 h51 =>
 beff (Qs base 6 h51 t4 v50) fun v52 h53 =>
 bnd (Qd true 6 h53 t4) fun v54 =>
 rt false base v54 h53)
 (fun v50 h51 => pn false base v50 h51) := by kernel_rfl
theorem EQ (base : Nat) (t1 t2 t4 t5 t6 : V) (H : Qa) : PU base t1 t2 t4 t5 t6 H =
 bnd (Qp t2 5) fun v20 =>
 bnd (Qd false 1 H v20) fun v21 =>
 bnd (QM v21) fun v22 =>
 bnd (Qb .lss 6 t6 v22) fun v23 =>
 cnd v23
 (bnd (Qp t2 5) fun v24 =>
 bnd (Qd false 1 H v24) fun v25 =>
 bnd (Qx 6 v25 t6) fun v26 =>
 bnd (Qd true 6 H v26) fun v27 =>
 bcall (E KA [v27,t1] H) (fun v28 h29 =>
 beff (Wo 1 6 true [(.int .i64 0),(.int .u64 0),(.int .u64 0),(.int .u64 0),(.int .u64 0),.nils] h29 [(0,v28)]) fun v30 h31 =>
 bnd (Qp t2 5) fun v32 =>
 bnd (Qd false 1 h31 v32) fun v33 =>
 bnd (Qb .add 6 t6 (.int .i64 1)) fun v34 =>
 bnd (JP 6 v33 (some v34) none none) fun v35 =>
 beff (Z6 base 6 64 true v30 v35 h31) fun v36 h37 =>
 bcall (E VT [v36] h37) (fun v38 h39 =>
 bnd (Zr 6 1 (.agg [(.int .i64 0),(.int .u64 0),(.int .u64 0),(.int .u64 0),(.int .u64 0),(.vs [])]) [(0,v38)]) fun v40 =>
 beff (Z6 base 6 64 true t5 v40 h39) fun v41 h42 =>
 bnd (Qp t2 5) fun v43 =>
 bnd (Qd false 1 h42 v43) fun v44 =>
 bnd (Qx 6 v44 t6) fun v45 =>
 bnd (Qd true 6 h42 v45) fun v46 =>
 bcall (E Kp [v46] h42) (fun v47 h48 =>
 bnd (oUn .not v47) fun v49 =>
 cnd v49
 (Ge base t4 v41 h48)
 (bnd (Qb .add 6 t6 (.int .i64 1)) fun v55 =>
 PU base t1 t2 t4 v41 v55 h48))
 (fun v47 h48 => pn false base v47 h48))
 (fun v38 h39 => pn false base v38 h39))
 (fun v28 h29 => pn false base v28 h29))
 (Ge base t4 t5 H) := (Za (cAt [1,0,1,0,1,1,1,0,1,0,1,0,0] Zv) ((Qe 1 ((Qg (fun _ t => Yz base (cAt [1,0,1,0,1,1,1,0,1,1] Zv) ((Qe 0 ((Qg (fun _ t => Yz base (cAt [1,1] Zv) (Yn base) (Qf YY (cAt [1,1] Zv) t)) (Yn base))))) (Qf YY (cAt [1,0,1,0,1,1,1,0,1,1] Zv) t)) ((Qe 0 ((Qg (fun _ t => Yz base (cAt [1,1] Zv) (Yn base) (Qf YY (cAt [1,1] Zv) t)) (Yn base))))))))) _ H []).trans (by kernel_rfl)
def G7 (base : Nat) (t1 t2 t4 t8 t9 : V) (H : Qa) : Option (Out × Qa) :=
Qt (fun t H d again => Yz base (cAt [1,0,1,0,1,1,1,1,1,0,1,0,1,0,0] Zv) (Ql YY (cAt [1,0,1,0,1,1,1,1,1,0,1,0,1,0,0] Zv) again ((Qe 3 ((Qg (fun _ t => Yz base (cAt [1,0,1,0,1,1,1,1,1,0,1,1] Zv) ((Qe 0 ((Qg (fun _ t => Yz base (cAt [1,1] Zv) (Yn base) (Qf YY (cAt [1,1] Zv) t)) (Yn base))))) (Qf YY (cAt [1,0,1,0,1,1,1,1,1,0,1,1] Zv) t)) ((Qe 0 ((Qg (fun _ t => Yz base (cAt [1,1] Zv) (Yn base) (Qf YY (cAt [1,1] Zv) t)) (Yn base)))))))))) t H d) [(1,t1),(2,t2),(4,t4),(8,t8),(9,t9)] H []
theorem QaR (base : Nat) (t1 t2 t4 t8 t9 : V) (H : Qa) : G7 base t1 t2 t4 t8 t9 H =
 bnd (Qp t2 5) fun v57 =>
 bnd (Qd false 1 H v57) fun v58 =>
 bnd (QM v58) fun v59 =>
 bnd (Qb .lss 6 t9 v59) fun v60 =>
 cnd v60
 (bnd (Qp t2 5) fun v61 =>
 bnd (Qd false 1 H v61) fun v62 =>
 bnd (Qx 6 v62 t9) fun v63 =>
 bnd (Qd true 6 H v63) fun v64 =>
 bcall (E KA [v64,t1] H) (fun v65 h66 =>
 bnd (Zr 6 1 (.agg [(.int .i64 0),(.int .u64 0),(.int .u64 0),(.int .u64 0),(.int .u64 0),(.vs [])]) [(0,v65)]) fun v67 =>
 beff (Z6 base 6 64 true t8 v67 h66) fun v68 h69 =>
 bnd (Qb .add 6 t9 (.int .i64 1)) fun v70 =>
 G7 base t1 t2 t4 v68 v70 h69)
 (fun v65 h66 => pn false base v65 h66))
 (bcall (E UY [t8] H) (fun v71 h72 =>
 beff (Qs base 6 h72 t4 v71) fun v73 h74 =>
 bnd (Qd true 6 h74 t4) fun v75 =>
 rt false base v75 h74)
 (fun v71 h72 => pn false base v71 h72)) := (Za (cAt [1,0,1,0,1,1,1,1,1,0,1,0,1,0,0] Zv) ((Qe 3 ((Qg (fun _ t => Yz base (cAt [1,0,1,0,1,1,1,1,1,0,1,1] Zv) ((Qe 0 ((Qg (fun _ t => Yz base (cAt [1,1] Zv) (Yn base) (Qf YY (cAt [1,1] Zv) t)) (Yn base))))) (Qf YY (cAt [1,0,1,0,1,1,1,1,1,0,1,1] Zv) t)) ((Qe 0 ((Qg (fun _ t => Yz base (cAt [1,1] Zv) (Yn base) (Qf YY (cAt [1,1] Zv) t)) (Yn base))))))))) _ H []).trans (by kernel_rfl)
def QfK (base : Nat) (t0 t1 : V) (H : Qa) : Option (Out × Qa) := Yz base Zv (Yn base) [(0,t0),(1,t1)] H []
theorem QpU (base : Nat) (t0 t1 : V) (H : Qa) : QfK base t0 t1 H =
 beff (QB H t0) fun v0 h1 =>
 beff (QB h1 (.agg [(.int .i64 0),(.int .u64 0),(.int .u64 0),(.int .u64 0),(.int .u64 0),.nils])) fun v2 h3 =>
 bnd (Qp v0 0) fun v4 =>
 bnd (Qd false 1 h3 v4) fun v5 =>
 bnd (Qb .eql 6 v5 (.int .i64 2)) fun v6 =>
 cnd v6
 (bnd (Qp v0 1) fun v7 =>
 bnd (Qd true 4 h3 v7) fun v8 =>
 bcall (E W9 [v8,t1] h3) (fun v9 h10 =>
 cnd v9
 (bnd (Zj [(.int .i64 0),(.int .u64 0),(.int .u64 0),(.int .u64 0),(.int .u64 0),.nils] [(0,1),(1,4),(5,1)] [(0,(.int .i64 1))]) fun v11 =>
 beff (Qs base 6 h10 v2 v11) fun v12 h13 =>
 bnd (Qd true 6 h13 v2) fun v14 =>
 rt false base v14 h13)
 (MC base v2 h10))
 (fun v9 h10 => pn false base v9 h10))
 (bnd (Qb .eql 6 v5 (.int .i64 3)) fun v19 =>
 cnd v19
 (PU base t1 v0 v2 .nils (.int .i64 0) h3)
 (bnd (Qb .eql 6 v5 (.int .i64 4)) fun v56 =>
 cnd v56
 (G7 base t1 v0 v2 .nils (.int .i64 0) h3)
 (bnd (Qb .eql 6 v5 (.int .i64 5)) fun v76 =>
 cnd v76
 (bnd (Qp v0 5) fun v77 =>
 bnd (Qd false 1 h3 v77) fun v78 =>
 bnd (QM v78) fun v79 =>
 bnd (Qb .eql 6 v79 (.int .i64 1)) fun v80 =>
 cnd v80
 (bnd (Qp v0 5) fun v81 =>
 bnd (Qd false 1 h3 v81) fun v82 =>
 bnd (Qx 6 v82 (.int .i64 0)) fun v83 =>
 bnd (Qd true 6 h3 v83) fun v84 =>
 bcall (E KA [v84,t1] h3) (fun v85 h86 =>
 bnd (bnd (Qd true 6 h86 v0) fun v87 => sch (sam (Qd true 6 h3 v0) v87) (
 some v87)) fun v87 =>
 beff (Wo 2 6 true [(.int .i64 0),(.int .u64 0),(.int .u64 0),(.int .u64 0),(.int .u64 0),.nils,(.int .i64 0),(.int .u64 0),(.int .u64 0),(.int .u64 0),(.int .u64 0),.nils] h86 [(0,v85),(1,v87)]) fun v88 h89 =>
 bcall (E VT [v88] h89) (fun v90 h91 =>
 beff (Qs base 6 h91 v2 v90) fun v92 h93 =>
 bnd (Qd true 6 h93 v2) fun v94 =>
 rt false base v94 h93)
 (fun v90 h91 => pn false base v90 h91))
 (fun v85 h86 => sch (tlb (Qd true 6 h3 v0) fun v95 => true) (pn false base v85 h86)))
 (MC base v2 h3))
 (MC base v2 h3)))) := by kernel_rfl
theorem QoW (t0 t1 : V) (H : Qa) : E KA [t0,t1] H = QfK H.length t0 t1 H := (QR Tryd.func17 (by kernel_rfl) (by kernel_rfl) (by kernel_rfl)).trans (by kernel_rfl)
def Qi1 : Code := QO Tryd.f18
def Qqd : Ks := []
def Qh3 (base : Nat) : KC (Out × Qa) := QN Tryd.prog D false base 12 Tryd.f18.results.toList
def Qkm (base : Nat) (c : Code) (k : KC (Out × Qa)) (t : Ts) (H : Qa) (d : Ds) : Option (Out × Qa) := xC Tryd.prog base false Qqd E 12 c k t H d
def Qe6 (base : Nat) (t0 t1 : V) (H : Qa) : Option (Out × Qa) := Qkm base Qi1 (Qh3 base) [(0,t0),(1,t1)] H []
theorem Qqj (base : Nat) (t0 t1 : V) (H : Qa) : Qe6 base t0 t1 H =
 beff (QB H (.agg [(.int .i64 0),(.int .u64 0),(.int .u64 0),(.int .u64 0),(.int .u64 0),.nils])) fun v0 h1 =>
 bnd (Zj [.nils,(.int .i64 0)] [(0,1),(1,1)] [(0,t0),(1,t1)]) fun v2 =>
 beff (QB h1 v2) fun v3 h4 =>
 bcall (E N8 [v3,(.int .i64 4)] h4) (fun v5 h6 =>
 beff (Qs base 6 h6 v0 v5) fun v7 h8 =>
 bnd (Qd true 6 h8 v0) fun v9 =>
 rt false base v9 h8)
 (fun v5 h6 => pn false base v5 h6) := by kernel_rfl
theorem QnX (t0 t1 : V) (H : Qa) : E RO [t0,t1] H = Qe6 H.length t0 t1 H := (QR Tryd.func18 (by kernel_rfl) (by kernel_rfl) (by kernel_rfl)).trans (by kernel_rfl)
def Qp2 : Code := QO Tryd.f19
def QiG : Ks := []
def Qol (base : Nat) : KC (Out × Qa) := QN Tryd.prog D false base 15 Tryd.f19.results.toList
def Qiw (base : Nat) (c : Code) (k : KC (Out × Qa)) (t : Ts) (H : Qa) (d : Ds) : Option (Out × Qa) := xC Tryd.prog base false QiG E 15 c k t H d
def QgP (base : Nat) (t0 t1 : V) (H : Qa) : Option (Out × Qa) := Qiw base Qp2 (Qol base) [(0,t0),(1,t1)] H []
theorem Qog (base : Nat) (t0 t1 : V) (H : Qa) : QgP base t0 t1 H =
 bnd (Zr 1 5 (.str []) [(0,(.str [97])),(1,(.str [98])),(2,(.str [99])),(3,(.str [100])),(4,(.str [97]))]) fun v0 =>
 bcall (E AC [t0,v0] H) (fun v1 h2 =>
 bnd (UB v1) fun v3 =>
 bnd (Fb [v3,t1]) fun v4 =>
 bnd (Pp v1 none (some v4) none) fun v5 =>
 rt false base v5 h2)
 (fun v1 h2 => pn false base v1 h2) := by kernel_rfl
theorem Ql2 (t0 t1 : V) (H : Qa) : E VI [t0,t1] H = QgP H.length t0 t1 H := (QR Tryd.func19 (by kernel_rfl) (by kernel_rfl) (by kernel_rfl)).trans (by kernel_rfl)
def Vq : Code := QO Tryd.f20
def Pl : Ks := [(2,[1,2,5])]
def Nm (base : Nat) : KC (Out × Qa) := QN Tryd.prog D false base 20 Tryd.f20.results.toList
def GI (base : Nat) (c : Code) (k : KC (Out × Qa)) (t : Ts) (H : Qa) (d : Ds) : Option (Out × Qa) := xC Tryd.prog base false Pl E 20 c k t H d
def Gs (base : Nat) (t1 t2 t5 : V) (H : Qa) : Option (Out × Qa) :=
Qt (fun t H d again => GI base (cAt [1,0,1,0,0] Vq) (Ql Pl (cAt [1,0,1,0,0] Vq) again ((Qe 0 ((Qg (fun _ t => GI base (cAt [1,1] Vq) (Nm base) (Qf Pl (cAt [1,1] Vq) t)) (Nm base)))))) t H d) [(1,t1),(2,t2),(5,t5)] H []
theorem Qf3 (base : Nat) (t1 t2 t5 : V) (H : Qa) : Gs base t1 t2 t5 H =
 bnd (UB t1) fun v2 =>
 bnd (Qb .lss 6 t5 v2) fun v3 =>
 cnd v3
 (bnd (Qd true 6 H t2) fun v4 =>
 bnd (Km t1 t5) fun v5 =>
 bnd (Yc .i64 v5) fun v6 =>
 bcall (E YG [v4,v6] H) (fun v7 h8 =>
 beff (Qs base 6 h8 t2 v7) fun v9 h10 =>
 bnd (Qb .add 6 t5 (.int .i64 1)) fun v11 =>
 Gs base t1 t2 v11 h10)
 (fun v7 h8 => pn false base v7 h8))
 (bnd (Qd true 6 H t2) fun v12 =>
 bcall (E Jq [v12] H) (fun v13 h14 =>
 rt false base v13 h14)
 (fun v13 h14 => pn false base v13 h14)) := (Za (cAt [1,0,1,0,0] Vq) ((Qe 0 ((Qg (fun _ t => GI base (cAt [1,1] Vq) (Nm base) (Qf Pl (cAt [1,1] Vq) t)) (Nm base))))) _ H []).trans (by kernel_rfl)
def QgJ (base : Nat) (t0 t1 : V) (H : Qa) : Option (Out × Qa) := GI base Vq (Nm base) [(0,t0),(1,t1)] H []
theorem QkF (base : Nat) (t0 t1 : V) (H : Qa) : QgJ base t0 t1 H =
 beff (QB H t0) fun v0 h1 =>
 Gs base t1 v0 (.int .i64 0) h1 := by kernel_rfl
theorem Qnm (t0 t1 : V) (H : Qa) : E Un [t0,t1] H = QgJ H.length t0 t1 H := (QR Tryd.func20 (by kernel_rfl) (by kernel_rfl) (by kernel_rfl)).trans (by kernel_rfl)
def YW : Code := QO Tryd.f22
def WQ : Ks := [(4,[2,3,4,5]),(5,[2,3,4,5])]
def KW (base : Nat) : KC (Out × Qa) := QN Tryd.prog D false base 40 Tryd.f22.results.toList
def Vg (base : Nat) (c : Code) (k : KC (Out × Qa)) (t : Ts) (H : Qa) (d : Ds) : Option (Out × Qa) := xC Tryd.prog base false WQ E 40 c k t H d
def Be (base : Nat) (t2 t3 t4 t5 : V) (H : Qa) : Option (Out × Qa) :=
Qt (fun t H d again => Vg base (cAt [1,1,1,0,1,0,0] YW) (Ql WQ (cAt [1,1,1,0,1,0,0] YW) again ((Qe 0 ((Qg (fun _ t => Vg base (cAt [1,1,1,1] YW) (KW base) (Qf WQ (cAt [1,1,1,1] YW) t)) (KW base)))))) t H d) [(2,t2),(3,t3),(4,t4),(5,t5)] H []
def NJ (base : Nat) (t2 t3 t4 t5 : V) (H : Qa) : Option (Out × Qa) :=
Vg base (cAt [1,1,1,0,1,0,0,1,1] YW) ((Ql WQ (cAt [1,1,1,0,1,0,0] YW) (Qt (fun t H d again => Vg base (cAt [1,1,1,0,1,0,0] YW) (Ql WQ (cAt [1,1,1,0,1,0,0] YW) again ((Qe 0 ((Qg (fun _ t => Vg base (cAt [1,1,1,1] YW) (KW base) (Qf WQ (cAt [1,1,1,1] YW) t)) (KW base)))))) t H d)) ((Qe 0 ((Qg (fun _ t => Vg base (cAt [1,1,1,1] YW) (KW base) (Qf WQ (cAt [1,1,1,1] YW) t)) (KW base))))))) [(2,t2),(3,t3),(4,t4),(5,t5)] H []
theorem Tx (base : Nat) (t2 t3 t4 t5 : V) (H : Qa) : NJ base t2 t3 t4 t5 H =
 bnd (Qb .add 6 t5 (.int .i64 1)) fun v23 =>
 Be base t2 t3 t4 v23 H := by kernel_rfl
theorem QiM (base : Nat) (t2 t3 t4 t5 : V) (H : Qa) : Be base t2 t3 t4 t5 H =
 bnd (QM t3) fun v4 =>
 bnd (Qb .lss 6 t5 v4) fun v5 =>
 cnd v5
 (bnd (Qx 6 t3 t5) fun v6 =>
 bnd (Qp v6 0) fun v7 =>
 bnd (Qd false 1 H v7) fun v8 =>
 bnd (Qb .eql 6 v8 (.int .i64 0)) fun v9 =>
 cnd v9
 (bnd (Zj [(.int .i64 0),(.int .u64 0),(.int .u64 0),(.int .u64 0),(.int .u64 0),.nils] [(0,1),(1,4),(5,1)] []) fun v10 =>
 beff (Qs base 6 H t2 v10) fun v11 h12 =>
 bnd (Qd true 6 h12 t2) fun v13 =>
 rt false base v13 h12)
 (bnd (Qx 6 t3 t5) fun v14 =>
 bnd (Qp v14 0) fun v15 =>
 bnd (Qd false 1 H v15) fun v16 =>
 bnd (Qb .neq 6 v16 (.int .i64 1)) fun v17 =>
 cnd v17
 (bnd (Qx 6 t3 t5) fun v18 =>
 bnd (Qd true 6 H v18) fun v19 =>
 bnd (Zr 6 1 (.agg [(.int .i64 0),(.int .u64 0),(.int .u64 0),(.int .u64 0),(.int .u64 0),(.vs [])]) [(0,v19)]) fun v20 =>
 beff (Z6 base 6 64 true t4 v20 H) fun v21 h22 =>
 NJ base t2 t3 v21 t5 h22)
 (NJ base t2 t3 t4 t5 H)))
 (bnd (QM t4) fun v24 =>
 bnd (Qb .eql 6 v24 (.int .i64 0)) fun v25 =>
 cnd v25
 (bnd (Zj [(.int .i64 0),(.int .u64 0),(.int .u64 0),(.int .u64 0),(.int .u64 0),.nils] [(0,1),(1,4),(5,1)] [(0,(.int .i64 1))]) fun v26 =>
 beff (Qs base 6 H t2 v26) fun v27 h28 =>
 bnd (Qd true 6 h28 t2) fun v29 =>
 rt false base v29 h28)
 (bcall (E F1 [t4,(.int .i64 3)] H) (fun v30 h31 =>
 beff (Qs base 6 h31 t2 v30) fun v32 h33 =>
 bnd (Qd true 6 h33 t2) fun v34 =>
 rt false base v34 h33)
 (fun v30 h31 => pn false base v30 h31))) := (Za (cAt [1,1,1,0,1,0,0] YW) ((Qe 0 ((Qg (fun _ t => Vg base (cAt [1,1,1,1] YW) (KW base) (Qf WQ (cAt [1,1,1,1] YW) t)) (KW base))))) _ H []).trans (by kernel_rfl)
def TR (base : Nat) (t0 : V) (H : Qa) : Option (Out × Qa) := Vg base YW (KW base) [(0,t0)] H []
theorem Qnz (base : Nat) (t0 : V) (H : Qa) : TR base t0 H =
 beff (QB H (.agg [(.int .i64 0),(.int .u64 0),(.int .u64 0),(.int .u64 0),(.int .u64 0),.nils])) fun v0 h1 =>
 bcall (E L9 [t0,(.int .i64 3)] h1) (fun v2 h3 =>
 Be base v0 v2 .nils (.int .i64 0) h3)
 (fun v2 h3 => pn false base v2 h3) := by kernel_rfl
theorem QqT (t0 : V) (H : Qa) : E VT [t0] H = TR H.length t0 H := (QR Tryd.func22 (by kernel_rfl) (by kernel_rfl) (by kernel_rfl)).trans (by kernel_rfl)
def QaO : Code := QO Tryd.f23
def Qqn : Ks := [(7,[1,2])]
def Qb7 (base : Nat) : KC (Out × Qa) := QN Tryd.prog D false base 15 Tryd.f23.results.toList
def QeW (base : Nat) (c : Code) (k : KC (Out × Qa)) (t : Ts) (H : Qa) (d : Ds) : Option (Out × Qa) := xC Tryd.prog base false Qqn E 15 c k t H d
def Xl (base : Nat) (t1 t2 : V) (H : Qa) : Option (Out × Qa) :=
QeW base (cAt [1,1] QaO) (Qb7 base) [(1,t1),(2,t2)] H []
theorem QaU (base : Nat) (t1 t2 : V) (H : Qa) : Xl base t1 t2 H =
 bnd (Qd true 6 H t1) fun v16 =>
 bnd (Zr 6 1 (.agg [(.int .i64 0),(.int .u64 0),(.int .u64 0),(.int .u64 0),(.int .u64 0),(.vs [])]) [(0,v16)]) fun v17 =>
 bnd (Zj [(.int .i64 0),(.int .u64 0),(.int .u64 0),(.int .u64 0),(.int .u64 0),.nils] [(0,1),(1,4),(5,1)] [(0,(.int .i64 5)),(2,v17)]) fun v18 =>
 beff (Qs base 6 H t2 v18) fun v19 h20 =>
 bnd (Qd true 6 h20 t2) fun v21 =>
 rt false base v21 h20 := by kernel_rfl
def T5 (base : Nat) (t0 : V) (H : Qa) : Option (Out × Qa) := QeW base QaO (Qb7 base) [(0,t0)] H []
theorem QeG (base : Nat) (t0 : V) (H : Qa) : T5 base t0 H =
 beff (QB H t0) fun v0 h1 =>
 beff (QB h1 (.agg [(.int .i64 0),(.int .u64 0),(.int .u64 0),(.int .u64 0),(.int .u64 0),.nils])) fun v2 h3 =>
 bnd (Qp v0 0) fun v4 =>
 bnd (Qd false 1 h3 v4) fun v5 =>
 bnd (Qb .eql 6 v5 (.int .i64 0)) fun v6 =>
 cnd v6
 (cnd v6
 (bnd (Zj [(.int .i64 0),(.int .u64 0),(.int .u64 0),(.int .u64 0),(.int .u64 0),.nils] [(0,1),(1,4),(5,1)] [(0,(.int .i64 1))]) fun v7 =>
 beff (Qs base 6 h3 v2 v7) fun v8 h9 =>
 bnd (Qd true 6 h9 v2) fun v10 =>
 rt false base v10 h9)
 (bnd (Qb .eql 6 v5 (.int .i64 5)) fun v11 =>
 cnd v11
 (bnd (Qd true 6 h3 v0) fun v12 =>
 beff (Qs base 6 h3 v2 v12) fun v13 h14 =>
 bnd (Qd true 6 h14 v2) fun v15 =>
 rt false base v15 h14)
 (Xl base v0 v2 h3)))
 (bnd (Qb .eql 6 v5 (.int .i64 1)) fun v22 =>
 cnd v22
 (bnd (Zj [(.int .i64 0),(.int .u64 0),(.int .u64 0),(.int .u64 0),(.int .u64 0),.nils] [(0,1),(1,4),(5,1)] [(0,(.int .i64 1))]) fun v23 =>
 beff (Qs base 6 h3 v2 v23) fun v24 h25 =>
 bnd (Qd true 6 h25 v2) fun v26 =>
 rt false base v26 h25)
 (bnd (Qb .eql 6 v5 (.int .i64 5)) fun v27 =>
 cnd v27
 (bnd (Qd true 6 h3 v0) fun v28 =>
 beff (Qs base 6 h3 v2 v28) fun v29 h30 =>
 bnd (Qd true 6 h30 v2) fun v31 =>
 rt false base v31 h30)
 (Xl base v0 v2 h3))) := by kernel_rfl
theorem Qhv (t0 : V) (H : Qa) : E WC [t0] H = T5 H.length t0 H := (QR Tryd.func23 (by kernel_rfl) (by kernel_rfl) (by kernel_rfl)).trans (by kernel_rfl)
end
end Go.Proofs.YtdnmpaielmfiiaaDoor
end
