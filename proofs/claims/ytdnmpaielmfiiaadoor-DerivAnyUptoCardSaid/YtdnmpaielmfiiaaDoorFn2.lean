/- Fn2: a part of the proof that each law of this seat answers true at every input. No condition. -/
import Derived.Test.YtdnmpaielmfiiaaDoorHint
import Derived.KernelRfl
set_option linter.unusedVariables false
set_option linter.unusedSimpArgs false
set_option maxRecDepth 20000
section
namespace Go.Proofs.YtdnmpaielmfiiaaDoor
open Go Go.Ev
noncomputable section
def YV : Code := QO Tryd.f24
def W6 : Ks := [(3,[0,1,4,5,6]),(4,[0,1,4,5,6])]
def KZ (base : Nat) : KC (Out × Qa) := QN Tryd.prog D false base 23 Tryd.f24.results.toList
def VG (base : Nat) (c : Code) (k : KC (Out × Qa)) (t : Ts) (H : Qa) (d : Ds) : Option (Out × Qa) := xC Tryd.prog base false W6 E 23 c k t H d
def MH (base : Nat) (t0 t1 t4 t5 t6 : V) (H : Qa) : Option (Out × Qa) :=
Qt (fun t H d again => VG base (cAt [1,1,0,1,0,0] YV) (Ql W6 (cAt [1,1,0,1,0,0] YV) again ((Qe 0 ((Qg (fun _ t => VG base (cAt [1,1,1] YV) (KZ base) (Qf W6 (cAt [1,1,1] YV) t)) (KZ base)))))) t H d) [(0,t0),(1,t1),(4,t4),(5,t5),(6,t6)] H []
def Gw (base : Nat) (t0 t1 t4 t5 t6 : V) (H : Qa) : Option (Out × Qa) :=
VG base (cAt [1,1,0,1,0,0,1,1] YV) ((Ql W6 (cAt [1,1,0,1,0,0] YV) (Qt (fun t H d again => VG base (cAt [1,1,0,1,0,0] YV) (Ql W6 (cAt [1,1,0,1,0,0] YV) again ((Qe 0 ((Qg (fun _ t => VG base (cAt [1,1,1] YV) (KZ base) (Qf W6 (cAt [1,1,1] YV) t)) (KZ base)))))) t H d)) ((Qe 0 ((Qg (fun _ t => VG base (cAt [1,1,1] YV) (KZ base) (Qf W6 (cAt [1,1,1] YV) t)) (KZ base))))))) [(0,t0),(1,t1),(4,t4),(5,t5),(6,t6)] H []
theorem Qqu (base : Nat) (t0 t1 t4 t5 t6 : V) (H : Qa) : Gw base t0 t1 t4 t5 t6 H =
 bnd (Qb .add 6 t6 (.int .i64 1)) fun v15 =>
 MH base t0 t1 t4 t5 v15 H := by kernel_rfl
theorem QpP (base : Nat) (t0 t1 t4 t5 t6 : V) (H : Qa) : MH base t0 t1 t4 t5 t6 H =
 bnd (Qb .lss 6 t6 (.int .i64 256)) fun v4 =>
 cnd v4
 (bnd (Qb .geq 6 t6 t0) fun v5 =>
 bnd (gua v5 true (QK t6) (some (.tup []))) fun v6 =>
 bnd (gua v5 true (QK t1) (some (.tup []))) fun v7 =>
 bnd (gua v5 true (Qb .leq 6 v6 v7) (some (.tup []))) fun v8 =>
 bnd (QX v5 v8 (.bool false)) fun v9 =>
 cnd v9
 (bnd (Qd true 4 H t5) fun v10 =>
 bcall (E PR [v10,t6] H) (fun v11 h12 =>
 beff (Qs base 4 h12 t5 v11) fun v13 h14 =>
 Gw base t0 t1 t4 t5 t6 h14)
 (fun v11 h12 => pn false base v11 h12))
 (Gw base t0 t1 t4 t5 t6 H))
 (bnd (Qd true 4 H t5) fun v16 =>
 beff (Qs base 4 H t4 v16) fun v17 h18 =>
 bnd (Qd true 4 h18 t4) fun v19 =>
 rt false base v19 h18) := (Za (cAt [1,1,0,1,0,0] YV) ((Qe 0 ((Qg (fun _ t => VG base (cAt [1,1,1] YV) (KZ base) (Qf W6 (cAt [1,1,1] YV) t)) (KZ base))))) _ H []).trans (by kernel_rfl)
def Ty (base : Nat) (t0 t1 : V) (H : Qa) : Option (Out × Qa) := VG base YV (KZ base) [(0,t0),(1,t1)] H []
theorem Qql (base : Nat) (t0 t1 : V) (H : Qa) : Ty base t0 t1 H =
 beff (QB H (.agg [(.int .u64 0),(.int .u64 0),(.int .u64 0),(.int .u64 0)])) fun v0 h1 =>
 beff (QB h1 (.agg [(.int .u64 0),(.int .u64 0),(.int .u64 0),(.int .u64 0)])) fun v2 h3 =>
 MH base t0 t1 v0 v2 (.int .i64 0) h3 := by kernel_rfl
theorem Qqh (t0 t1 : V) (H : Qa) : E BJ [t0,t1] H = Ty H.length t0 t1 H := (QR Tryd.func24 (by kernel_rfl) (by kernel_rfl) (by kernel_rfl)).trans (by kernel_rfl)
def WI : Code := QO Tryd.f25
def Ee : Ks := [(2,[1,3]),(20,[])]
def Rb (base : Nat) : KC (Out × Qa) := QN Tryd.prog D false base 89 Tryd.f25.results.toList
def MZ (base : Nat) (c : Code) (k : KC (Out × Qa)) (t : Ts) (H : Qa) (d : Ds) : Option (Out × Qa) := xC Tryd.prog base false Ee E 89 c k t H d
def Nb (base : Nat) (t1 t3 : V) (H : Qa) : Option (Out × Qa) :=
Qt (fun t H d again => MZ base (cAt [1,0,1,0,0] WI) (Ql Ee (cAt [1,0,1,0,0] WI) again ((Qe 0 ((Qg (fun _ t => MZ base (cAt [1,1] WI) (Rb base) (Qf Ee (cAt [1,1] WI) t)) (Rb base)))))) t H d) [(1,t1),(3,t3)] H []
def CH (base : Nat) (H : Qa) : Option (Out × Qa) :=
MZ base (cAt [1,1,1,1] WI) (Rb base) [] H []
theorem QpY (base : Nat) (H : Qa) : CH base  H =
 rt false base (.bool false) H := by kernel_rfl
theorem QcY (base : Nat) (t1 t3 : V) (H : Qa) : Nb base t1 t3 H =
 bnd (Qp t1 5) fun v2 =>
 bnd (Qd false 1 H v2) fun v3 =>
 bnd (QM v3) fun v4 =>
 bnd (Qb .lss 6 t3 v4) fun v5 =>
 cnd v5
 (bnd (Qp t1 5) fun v6 =>
 bnd (Qd false 1 H v6) fun v7 =>
 bnd (Qx 6 v7 t3) fun v8 =>
 bnd (Qd true 6 H v8) fun v9 =>
 bcall (E Rz [v9] H) (fun v10 h11 =>
 bnd (oUn .not v10) fun v12 =>
 cnd v12
 (rt false base (.bool false) h11)
 (bnd (Qb .add 6 t3 (.int .i64 1)) fun v13 =>
 Nb base t1 v13 h11))
 (fun v10 h11 => pn false base v10 h11))
 (bnd (Qp t1 0) fun v14 =>
 bnd (Qd false 1 H v14) fun v15 =>
 bnd (Qb .neq 6 v15 (.int .i64 2)) fun v16 =>
 bnd (gua v16 true (Qp t1 1) (some (.tup []))) fun v17 =>
 bnd (gua v16 true (Qd true 4 H v17) (some (.tup []))) fun v18 =>
 bcall (gua v16 true (E Ub [v18] H) (some (.ret (.tup []),H))) (fun v19 h20 =>
 bnd (gua v16 true (Qb .gtr 6 v19 (.int .i64 0)) (some (.tup []))) fun v21 =>
 bnd (QX v16 v21 (.bool false)) fun v22 =>
 cnd v22
 (rt false base (.bool false) h20)
 (bnd (Qp t1 0) fun v23 =>
 bnd (Qd false 1 h20 v23) fun v24 =>
 bnd (Qb .eql 6 v24 (.int .i64 0)) fun v25 =>
 cnd v25
 (cnd v25
 (bnd (Qp t1 5) fun v26 =>
 bnd (Qd false 1 h20 v26) fun v27 =>
 bnd (QM v27) fun v28 =>
 bnd (Qb .eql 6 v28 (.int .i64 0)) fun v29 =>
 rt false base v29 h20)
 (bnd (Qb .eql 6 v24 (.int .i64 2)) fun v30 =>
 cnd v30
 (bnd (Qp t1 5) fun v31 =>
 bnd (Qd false 1 h20 v31) fun v32 =>
 bnd (QM v32) fun v33 =>
 bnd (Qb .eql 6 v33 (.int .i64 0)) fun v34 =>
 bnd (gua v34 true (Qp t1 1) (some (.tup []))) fun v35 =>
 bnd (gua v34 true (Qd true 4 h20 v35) (some (.tup []))) fun v36 =>
 bcall (gua v34 true (E Ub [v36] h20) (some (.ret (.tup []),h20))) (fun v37 h38 =>
 bnd (gua v34 true (Qb .gtr 6 v37 (.int .i64 0)) (some (.tup []))) fun v39 =>
 bnd (QX v34 v39 (.bool false)) fun v40 =>
 rt false base v40 h38)
 (fun v37 h38 => pn false base v37 h38))
 (bnd (Qb .eql 6 v24 (.int .i64 5)) fun v41 =>
 cnd v41
 (bnd (Qp t1 5) fun v42 =>
 bnd (Qd false 1 h20 v42) fun v43 =>
 bnd (QM v43) fun v44 =>
 bnd (Qb .eql 6 v44 (.int .i64 1)) fun v45 =>
 bnd (gua v45 true (Qp t1 5) (some (.tup []))) fun v46 =>
 bnd (gua v45 true (Qd false 1 h20 v46) (some (.tup []))) fun v47 =>
 bnd (gua v45 true (Qx 6 v47 (.int .i64 0)) (some (.tup []))) fun v48 =>
 bnd (gua v45 true (Qd true 6 h20 v48) (some (.tup []))) fun v49 =>
 bcall (gua v45 true (E WC [v49] h20) (some (.ret (.tup []),h20))) (fun v50 h51 =>
 bnd (gua v45 true (bnd (Qd true 6 h51 t1) fun v52 => sch (sam (Qd true 6 h20 t1) v52) (
 some v52)) (some (.tup []))) fun v52 =>
 bcall (gua v45 true (E Ju [v50,v52] h51) (some (.ret (.tup []),h51))) (fun v53 h54 =>
 bnd (QX v45 v53 (.bool false)) fun v55 =>
 rt false base v55 h54)
 (fun v53 h54 => pn false base v53 h54))
 (fun v50 h51 => sch (tlb (gua v45 true (Qd true 6 h20 t1) (some (.tup []))) fun v56 => true) (pn false base v50 h51)))
 (bnd (Qb .eql 6 v24 (.int .i64 3)) fun v57 =>
 cnd v57
 (bnd (Qp t1 5) fun v58 =>
 bnd (Qd false 1 h20 v58) fun v59 =>
 bnd (QM v59) fun v60 =>
 bnd (Qb .gtr 6 v60 (.int .i64 1)) fun v61 =>
 bnd (gua v61 true (Qp t1 5) (some (.tup []))) fun v62 =>
 bnd (gua v61 true (Qd false 1 h20 v62) (some (.tup []))) fun v63 =>
 bcall (gua v61 true (E VT [v63] h20) (some (.ret (.tup []),h20))) (fun v64 h65 =>
 bnd (gua v61 true (bnd (Qd true 6 h65 t1) fun v66 => sch (sam (Qd true 6 h20 t1) v66) (
 some v66)) (some (.tup []))) fun v66 =>
 bcall (gua v61 true (E Ju [v64,v66] h65) (some (.ret (.tup []),h65))) (fun v67 h68 =>
 bnd (QX v61 v67 (.bool false)) fun v69 =>
 rt false base v69 h68)
 (fun v67 h68 => pn false base v67 h68))
 (fun v64 h65 => sch (tlb (gua v61 true (Qd true 6 h20 t1) (some (.tup []))) fun v70 => true) (pn false base v64 h65)))
 (bnd (Qb .eql 6 v24 (.int .i64 4)) fun v71 =>
 cnd v71
 (bnd (Qp t1 5) fun v72 =>
 bnd (Qd false 1 h20 v72) fun v73 =>
 bnd (QM v73) fun v74 =>
 bnd (Qb .gtr 6 v74 (.int .i64 1)) fun v75 =>
 bnd (gua v75 true (Qp t1 5) (some (.tup []))) fun v76 =>
 bnd (gua v75 true (Qd false 1 h20 v76) (some (.tup []))) fun v77 =>
 bcall (gua v75 true (E UY [v77] h20) (some (.ret (.tup []),h20))) (fun v78 h79 =>
 bnd (gua v75 true (bnd (Qd true 6 h79 t1) fun v80 => sch (sam (Qd true 6 h20 t1) v80) (
 some v80)) (some (.tup []))) fun v80 =>
 bcall (gua v75 true (E Ju [v78,v80] h79) (some (.ret (.tup []),h79))) (fun v81 h82 =>
 bnd (QX v75 v81 (.bool false)) fun v83 =>
 rt false base v83 h82)
 (fun v81 h82 => pn false base v81 h82))
 (fun v78 h79 => sch (tlb (gua v75 true (Qd true 6 h20 t1) (some (.tup []))) fun v84 => true) (pn false base v78 h79)))
 (CH base  h20))))))
 (bnd (Qb .eql 6 v24 (.int .i64 1)) fun v85 =>
 cnd v85
 (bnd (Qp t1 5) fun v86 =>
 bnd (Qd false 1 h20 v86) fun v87 =>
 bnd (QM v87) fun v88 =>
 bnd (Qb .eql 6 v88 (.int .i64 0)) fun v89 =>
 rt false base v89 h20)
 (bnd (Qb .eql 6 v24 (.int .i64 2)) fun v90 =>
 cnd v90
 (bnd (Qp t1 5) fun v91 =>
 bnd (Qd false 1 h20 v91) fun v92 =>
 bnd (QM v92) fun v93 =>
 bnd (Qb .eql 6 v93 (.int .i64 0)) fun v94 =>
 bnd (gua v94 true (Qp t1 1) (some (.tup []))) fun v95 =>
 bnd (gua v94 true (Qd true 4 h20 v95) (some (.tup []))) fun v96 =>
 bcall (gua v94 true (E Ub [v96] h20) (some (.ret (.tup []),h20))) (fun v97 h98 =>
 bnd (gua v94 true (Qb .gtr 6 v97 (.int .i64 0)) (some (.tup []))) fun v99 =>
 bnd (QX v94 v99 (.bool false)) fun v100 =>
 rt false base v100 h98)
 (fun v97 h98 => pn false base v97 h98))
 (bnd (Qb .eql 6 v24 (.int .i64 5)) fun v101 =>
 cnd v101
 (bnd (Qp t1 5) fun v102 =>
 bnd (Qd false 1 h20 v102) fun v103 =>
 bnd (QM v103) fun v104 =>
 bnd (Qb .eql 6 v104 (.int .i64 1)) fun v105 =>
 bnd (gua v105 true (Qp t1 5) (some (.tup []))) fun v106 =>
 bnd (gua v105 true (Qd false 1 h20 v106) (some (.tup []))) fun v107 =>
 bnd (gua v105 true (Qx 6 v107 (.int .i64 0)) (some (.tup []))) fun v108 =>
 bnd (gua v105 true (Qd true 6 h20 v108) (some (.tup []))) fun v109 =>
 bcall (gua v105 true (E WC [v109] h20) (some (.ret (.tup []),h20))) (fun v110 h111 =>
 bnd (gua v105 true (bnd (Qd true 6 h111 t1) fun v112 => sch (sam (Qd true 6 h20 t1) v112) (
 some v112)) (some (.tup []))) fun v112 =>
 bcall (gua v105 true (E Ju [v110,v112] h111) (some (.ret (.tup []),h111))) (fun v113 h114 =>
 bnd (QX v105 v113 (.bool false)) fun v115 =>
 rt false base v115 h114)
 (fun v113 h114 => pn false base v113 h114))
 (fun v110 h111 => sch (tlb (gua v105 true (Qd true 6 h20 t1) (some (.tup []))) fun v116 => true) (pn false base v110 h111)))
 (bnd (Qb .eql 6 v24 (.int .i64 3)) fun v117 =>
 cnd v117
 (bnd (Qp t1 5) fun v118 =>
 bnd (Qd false 1 h20 v118) fun v119 =>
 bnd (QM v119) fun v120 =>
 bnd (Qb .gtr 6 v120 (.int .i64 1)) fun v121 =>
 bnd (gua v121 true (Qp t1 5) (some (.tup []))) fun v122 =>
 bnd (gua v121 true (Qd false 1 h20 v122) (some (.tup []))) fun v123 =>
 bcall (gua v121 true (E VT [v123] h20) (some (.ret (.tup []),h20))) (fun v124 h125 =>
 bnd (gua v121 true (bnd (Qd true 6 h125 t1) fun v126 => sch (sam (Qd true 6 h20 t1) v126) (
 some v126)) (some (.tup []))) fun v126 =>
 bcall (gua v121 true (E Ju [v124,v126] h125) (some (.ret (.tup []),h125))) (fun v127 h128 =>
 bnd (QX v121 v127 (.bool false)) fun v129 =>
 rt false base v129 h128)
 (fun v127 h128 => pn false base v127 h128))
 (fun v124 h125 => sch (tlb (gua v121 true (Qd true 6 h20 t1) (some (.tup []))) fun v130 => true) (pn false base v124 h125)))
 (bnd (Qb .eql 6 v24 (.int .i64 4)) fun v131 =>
 cnd v131
 (bnd (Qp t1 5) fun v132 =>
 bnd (Qd false 1 h20 v132) fun v133 =>
 bnd (QM v133) fun v134 =>
 bnd (Qb .gtr 6 v134 (.int .i64 1)) fun v135 =>
 bnd (gua v135 true (Qp t1 5) (some (.tup []))) fun v136 =>
 bnd (gua v135 true (Qd false 1 h20 v136) (some (.tup []))) fun v137 =>
 bcall (gua v135 true (E UY [v137] h20) (some (.ret (.tup []),h20))) (fun v138 h139 =>
 bnd (gua v135 true (bnd (Qd true 6 h139 t1) fun v140 => sch (sam (Qd true 6 h20 t1) v140) (
 some v140)) (some (.tup []))) fun v140 =>
 bcall (gua v135 true (E Ju [v138,v140] h139) (some (.ret (.tup []),h139))) (fun v141 h142 =>
 bnd (QX v135 v141 (.bool false)) fun v143 =>
 rt false base v143 h142)
 (fun v141 h142 => pn false base v141 h142))
 (fun v138 h139 => sch (tlb (gua v135 true (Qd true 6 h20 t1) (some (.tup []))) fun v144 => true) (pn false base v138 h139)))
 (CH base  h20))))))))
 (fun v19 h20 => pn false base v19 h20)) := (Za (cAt [1,0,1,0,0] WI) ((Qe 0 ((Qg (fun _ t => MZ base (cAt [1,1] WI) (Rb base) (Qf Ee (cAt [1,1] WI) t)) (Rb base))))) _ H []).trans (by kernel_rfl)
def QbK (base : Nat) (t0 : V) (H : Qa) : Option (Out × Qa) := MZ base WI (Rb base) [(0,t0)] H []
theorem QmN (base : Nat) (t0 : V) (H : Qa) : QbK base t0 H =
 beff (QB H t0) fun v0 h1 =>
 Nb base v0 (.int .i64 0) h1 := by kernel_rfl
theorem QmG (t0 : V) (H : Qa) : E Rz [t0] H = QbK H.length t0 H := (QR Tryd.func25 (by kernel_rfl) (by kernel_rfl) (by kernel_rfl)).trans (by kernel_rfl)
def ZE : Code := QO Tryd.f26
def Jk : Ks := [(5,[2,3,4,5,6]),(6,[2,3,4,5,6]),(11,[2,3,4]),(12,[2,3,4,7]),(13,[2,3,4,7])]
def Yw (base : Nat) : KC (Out × Qa) := QN Tryd.prog D false base 69 Tryd.f26.results.toList
def Y7 (base : Nat) (c : Code) (k : KC (Out × Qa)) (t : Ts) (H : Qa) (d : Ds) : Option (Out × Qa) := xC Tryd.prog base false Jk E 69 c k t H d
def MG (base : Nat) (t2 t3 t4 t5 t6 : V) (H : Qa) : Option (Out × Qa) :=
Qt (fun t H d again => Y7 base (cAt [1,1,1,1,0,1,0,0] ZE) (Ql Jk (cAt [1,1,1,1,0,1,0,0] ZE) again ((Qe 0 ((Qg (fun _ t => Y7 base (cAt [1,1,1,1,1] ZE) (Yw base) (Qf Jk (cAt [1,1,1,1,1] ZE) t)) (Yw base)))))) t H d) [(2,t2),(3,t3),(4,t4),(5,t5),(6,t6)] H []
def Ea (base : Nat) (t2 t3 t4 t5 t6 : V) (H : Qa) : Option (Out × Qa) :=
Y7 base (cAt [1,1,1,1,0,1,0,0,1,1] ZE) ((Ql Jk (cAt [1,1,1,1,0,1,0,0] ZE) (Qt (fun t H d again => Y7 base (cAt [1,1,1,1,0,1,0,0] ZE) (Ql Jk (cAt [1,1,1,1,0,1,0,0] ZE) again ((Qe 0 ((Qg (fun _ t => Y7 base (cAt [1,1,1,1,1] ZE) (Yw base) (Qf Jk (cAt [1,1,1,1,1] ZE) t)) (Yw base)))))) t H d)) ((Qe 0 ((Qg (fun _ t => Y7 base (cAt [1,1,1,1,1] ZE) (Yw base) (Qf Jk (cAt [1,1,1,1,1] ZE) t)) (Yw base))))))) [(2,t2),(3,t3),(4,t4),(5,t5),(6,t6)] H []
theorem QoE (base : Nat) (t2 t3 t4 t5 t6 : V) (H : Qa) : Ea base t2 t3 t4 t5 t6 H =
 bnd (Qb .add 6 t6 (.int .i64 1)) fun v20 =>
 MG base t2 t3 t4 t5 v20 H := by kernel_rfl
def NE (base : Nat) (t2 t3 t4 t7 : V) (H : Qa) : Option (Out × Qa) :=
Qt (fun t H d again => Y7 base (cAt [1,1,1,1,1,1,0,1,0,0] ZE) (Ql Jk (cAt [1,1,1,1,1,1,0,1,0,0] ZE) again ((Qe 2 ((Qg (fun _ t => Y7 base (cAt [1,1,1,1,1,1,1] ZE) (Yw base) (Qf Jk (cAt [1,1,1,1,1,1,1] ZE) t)) (Yw base)))))) t H d) [(2,t2),(3,t3),(4,t4),(7,t7)] H []
def Pz (base : Nat) (t2 t3 t4 t7 : V) (H : Qa) : Option (Out × Qa) :=
Y7 base (cAt [1,1,1,1,1,1,0,1,0,0,1,1] ZE) ((Ql Jk (cAt [1,1,1,1,1,1,0,1,0,0] ZE) (Qt (fun t H d again => Y7 base (cAt [1,1,1,1,1,1,0,1,0,0] ZE) (Ql Jk (cAt [1,1,1,1,1,1,0,1,0,0] ZE) again ((Qe 2 ((Qg (fun _ t => Y7 base (cAt [1,1,1,1,1,1,1] ZE) (Yw base) (Qf Jk (cAt [1,1,1,1,1,1,1] ZE) t)) (Yw base)))))) t H d)) ((Qe 2 ((Qg (fun _ t => Y7 base (cAt [1,1,1,1,1,1,1] ZE) (Yw base) (Qf Jk (cAt [1,1,1,1,1,1,1] ZE) t)) (Yw base))))))) [(2,t2),(3,t3),(4,t4),(7,t7)] H []
theorem Qq6 (base : Nat) (t2 t3 t4 t7 : V) (H : Qa) : Pz base t2 t3 t4 t7 H =
 bnd (Qb .add 6 t7 (.int .i64 1)) fun v48 =>
 NE base t2 t3 t4 v48 H := by kernel_rfl
theorem Ab (base : Nat) (t2 t3 t4 t7 : V) (H : Qa) : NE base t2 t3 t4 t7 H =
 bnd (QM t3) fun v31 =>
 bnd (Qb .lss 6 t7 v31) fun v32 =>
 cnd v32
 (bnd (Qx 6 t3 t7) fun v33 =>
 bnd (Qp v33 0) fun v34 =>
 bnd (Qd false 1 H v34) fun v35 =>
 bnd (Qb .neq 6 v35 (.int .i64 0)) fun v36 =>
 bnd (gua v36 true (QK t3) (some (.tup []))) fun v37 =>
 bnd (gua v36 true (QK t7) (some (.tup []))) fun v38 =>
 bnd (gua v36 true (Qx 6 v37 v38) (some (.tup []))) fun v39 =>
 bnd (gua v36 true (Qp v39 0) (some (.tup []))) fun v40 =>
 bnd (gua v36 true (Qd false 1 H v40) (some (.tup []))) fun v41 =>
 bnd (gua v36 true (Qb .neq 6 v41 (.int .i64 2)) (some (.tup []))) fun v42 =>
 bnd (QX v36 v42 (.bool false)) fun v43 =>
 cnd v43
 (bnd (Qx 6 t3 t7) fun v44 =>
 bnd (Qd true 6 H v44) fun v45 =>
 bcall (E Dk [t4,v45] H) (fun v46 h47 =>
 Pz base t2 t3 v46 t7 h47)
 (fun v46 h47 => pn false base v46 h47))
 (Pz base t2 t3 t4 t7 H))
 (bnd (QM t4) fun v49 =>
 bnd (Qb .eql 6 v49 (.int .i64 0)) fun v50 =>
 cnd v50
 (bnd (Zj [(.int .i64 0),(.int .u64 0),(.int .u64 0),(.int .u64 0),(.int .u64 0),.nils] [(0,1),(1,4),(5,1)] []) fun v51 =>
 beff (Qs base 6 H t2 v51) fun v52 h53 =>
 bnd (Qd true 6 h53 t2) fun v54 =>
 rt false base v54 h53)
 (bcall (E F1 [t4,(.int .i64 4)] H) (fun v55 h56 =>
 beff (Qs base 6 h56 t2 v55) fun v57 h58 =>
 bnd (Qd true 6 h58 t2) fun v59 =>
 rt false base v59 h58)
 (fun v55 h56 => pn false base v55 h56))) := (Za (cAt [1,1,1,1,1,1,0,1,0,0] ZE) ((Qe 2 ((Qg (fun _ t => Y7 base (cAt [1,1,1,1,1,1,1] ZE) (Yw base) (Qf Jk (cAt [1,1,1,1,1,1,1] ZE) t)) (Yw base))))) _ H []).trans (by kernel_rfl)
def AI (base : Nat) (t2 t3 t4 : V) (H : Qa) : Option (Out × Qa) :=
Y7 base (cAt [1,1,1,1,1,1] ZE) (Yw base) [(2,t2),(3,t3),(4,t4)] H []
theorem QgF (base : Nat) (t2 t3 t4 : V) (H : Qa) : AI base t2 t3 t4 H =
 NE base t2 t3 t4 (.int .i64 0) H := by kernel_rfl
theorem EM (base : Nat) (t2 t3 t4 t5 t6 : V) (H : Qa) : MG base t2 t3 t4 t5 t6 H =
 bnd (QM t3) fun v6 =>
 bnd (Qb .lss 6 t6 v6) fun v7 =>
 cnd v7
 (bnd (Qx 6 t3 t6) fun v8 =>
 bnd (Qp v8 0) fun v9 =>
 bnd (Qd false 1 H v9) fun v10 =>
 bnd (Qb .eql 6 v10 (.int .i64 2)) fun v11 =>
 cnd v11
 (bnd (Qd true 4 H t5) fun v12 =>
 bnd (Qx 6 t3 t6) fun v13 =>
 bnd (Qp v13 1) fun v14 =>
 bnd (Qd true 4 H v14) fun v15 =>
 bcall (E De [v12,v15] H) (fun v16 h17 =>
 beff (Qs base 4 h17 t5 v16) fun v18 h19 =>
 Ea base t2 t3 t4 t5 t6 h19)
 (fun v16 h17 => pn false base v16 h17))
 (Ea base t2 t3 t4 t5 t6 H))
 (bnd (Qd true 4 H t5) fun v21 =>
 bcall (E Ub [v21] H) (fun v22 h23 =>
 bnd (Qb .gtr 6 v22 (.int .i64 0)) fun v24 =>
 cnd v24
 (bnd (Qd true 4 h23 t5) fun v25 =>
 bcall (E Dn [v25] h23) (fun v26 h27 =>
 bnd (Zr 6 1 (.agg [(.int .i64 0),(.int .u64 0),(.int .u64 0),(.int .u64 0),(.int .u64 0),(.vs [])]) [(0,v26)]) fun v28 =>
 beff (Z6 base 6 64 true t4 v28 h27) fun v29 h30 =>
 AI base t2 t3 v29 h30)
 (fun v26 h27 => pn false base v26 h27))
 (AI base t2 t3 t4 h23))
 (fun v22 h23 => pn false base v22 h23)) := (Za (cAt [1,1,1,1,0,1,0,0] ZE) ((Qe 0 ((Qg (fun _ t => Y7 base (cAt [1,1,1,1,1] ZE) (Yw base) (Qf Jk (cAt [1,1,1,1,1] ZE) t)) (Yw base))))) _ H []).trans (by kernel_rfl)
def TQ (base : Nat) (t0 : V) (H : Qa) : Option (Out × Qa) := Y7 base ZE (Yw base) [(0,t0)] H []
theorem QqO (base : Nat) (t0 : V) (H : Qa) : TQ base t0 H =
 beff (QB H (.agg [(.int .i64 0),(.int .u64 0),(.int .u64 0),(.int .u64 0),(.int .u64 0),.nils])) fun v0 h1 =>
 bcall (E L9 [t0,(.int .i64 4)] h1) (fun v2 h3 =>
 beff (QB h3 (.agg [(.int .u64 0),(.int .u64 0),(.int .u64 0),(.int .u64 0)])) fun v4 h5 =>
 MG base v0 v2 .nils v4 (.int .i64 0) h5)
 (fun v2 h3 => pn false base v2 h3) := by kernel_rfl
theorem Qm7 (t0 : V) (H : Qa) : E UY [t0] H = TQ H.length t0 H := (QR Tryd.func26 (by kernel_rfl) (by kernel_rfl) (by kernel_rfl)).trans (by kernel_rfl)
def Qna : Code := QO Tryd.f27
def Qh9 : Ks := []
def Qk6 (base : Nat) : KC (Out × Qa) := QN Tryd.prog D false base 9 Tryd.f27.results.toList
def Qq9 (base : Nat) (c : Code) (k : KC (Out × Qa)) (t : Ts) (H : Qa) (d : Ds) : Option (Out × Qa) := xC Tryd.prog base true Qh9 E 9 c k t H d
def Qhm (base : Nat) (t0 t1 : V) (H : Qa) : Option (Out × Qa) := Qq9 base Qna (Qk6 base) [(0,t0),(1,t1)] H []
theorem Qqi (base : Nat) (t0 t1 : V) (H : Qa) : Qhm base t0 t1 H =
 bcall (E L4 [t0,t1] H) (fun v0 h1 =>
 bnd (Qb .geq 6 v0 (.int .i64 0)) fun v2 =>
 rt false base v2 h1)
 (fun v0 h1 => pn false base v0 h1) := by kernel_rfl
theorem QiO (t0 t1 : V) (H : Qa) : E U3 [t0,t1] H = Qhm H.length t0 t1 H := (QR Tryd.func27 (by kernel_rfl) (by kernel_rfl) (by kernel_rfl)).trans (by kernel_rfl)
def Qjl : Code := QO Tryd.f28
def QnE : Ks := []
def QqL (base : Nat) : KC (Out × Qa) := QN Tryd.prog D false base 6 Tryd.f28.results.toList
def Qjt (base : Nat) (c : Code) (k : KC (Out × Qa)) (t : Ts) (H : Qa) (d : Ds) : Option (Out × Qa) := xC Tryd.prog base false QnE E 6 c k t H d
def QcK (base : Nat) (t0 : V) (H : Qa) : Option (Out × Qa) := Qjt base Qjl (QqL base) [(0,t0)] H []
theorem Qmc (base : Nat) (t0 : V) (H : Qa) : QcK base t0 H =
 beff (QB H t0) fun v0 h1 =>
 bnd (Qd true 6 h1 v0) fun v2 =>
 bcall (E Jq [v2] h1) (fun v3 h4 =>
 bnd (oUn .not v3) fun v5 =>
 rt false base v5 h4)
 (fun v3 h4 => pn false base v3 h4) := by kernel_rfl
theorem Qlo (t0 : V) (H : Qa) : E Nq [t0] H = QcK H.length t0 H := (QR Tryd.func28 (by kernel_rfl) (by kernel_rfl) (by kernel_rfl)).trans (by kernel_rfl)
def Qk8 : Code := QO Tryd.f29
def QiK : Ks := []
def QjP (base : Nat) : KC (Out × Qa) := QN Tryd.prog D false base 22 Tryd.f29.results.toList
def Qrp (base : Nat) (c : Code) (k : KC (Out × Qa)) (t : Ts) (H : Qa) (d : Ds) : Option (Out × Qa) := xC Tryd.prog base false QiK E 22 c k t H d
def Tt (base : Nat) (t0 t1 : V) (H : Qa) : Option (Out × Qa) := Qrp base Qk8 (QjP base) [(0,t0),(1,t1)] H []
theorem Qng (base : Nat) (t0 t1 : V) (H : Qa) : Tt base t0 t1 H =
 beff (QB H t0) fun v0 h1 =>
 bnd (Qb .geq 6 t1 (.int .i64 0)) fun v2 =>
 bnd (gua v2 true (QK t1) (some (.tup []))) fun v3 =>
 bnd (gua v2 true (Qb .lss 6 v3 (.int .i64 256)) (some (.tup []))) fun v4 =>
 bnd (QX v2 v4 (.bool false)) fun v5 =>
 bnd (gua v5 true (QK t1) (some (.tup []))) fun v6 =>
 bnd (gua v5 true (Qb .quo 6 v6 (.int .i64 64)) (some (.tup []))) fun v7 =>
 bnd (gua v5 true (K4 4 1 v0 v7) (some (.tup []))) fun v8 =>
 bnd (gua v5 true (Qd false 1 h1 v8) (some (.tup []))) fun v9 =>
 bnd (gua v5 true (QK t1) (some (.tup []))) fun v10 =>
 bnd (gua v5 true (Qb .rem 6 v10 (.int .i64 64)) (some (.tup []))) fun v11 =>
 bnd (gua v5 true (Qb .shl 6 (.int .u64 1) v11) (some (.tup []))) fun v12 =>
 bnd (gua v5 true (Qb .and 6 v9 v12) (some (.tup []))) fun v13 =>
 bnd (gua v5 true (Qb .neq 6 v13 (.int .u64 0)) (some (.tup []))) fun v14 =>
 bnd (QX v5 v14 (.bool false)) fun v15 =>
 rt false base v15 h1 := by kernel_rfl
theorem Qjy (t0 t1 : V) (H : Qa) : E Dw [t0,t1] H = Tt H.length t0 t1 H := (QR Tryd.func29 (by kernel_rfl) (by kernel_rfl) (by kernel_rfl)).trans (by kernel_rfl)
def WA : Code := QO Tryd.f30
def Gx : Ks := [(3,[1,2,4,5,9,10,11]),(8,[4,5])]
def BZ (base : Nat) : KC (Out × Qa) := QN Tryd.prog D false base 37 Tryd.f30.results.toList
def Mt (base : Nat) (c : Code) (k : KC (Out × Qa)) (t : Ts) (H : Qa) (d : Ds) : Option (Out × Qa) := xC Tryd.prog base false Gx E 37 c k t H d
def P1 (base : Nat) (t1 t2 t4 t5 t9 t10 t11 : V) (H : Qa) : Option (Out × Qa) :=
Qt (fun t H d again => Mt base (cAt [1,1,0,1,0,0] WA) (Ql Gx (cAt [1,1,0,1,0,0] WA) again ((Qe 0 ((Qg (fun _ t => Mt base (cAt [1,1,1] WA) (BZ base) (Qf Gx (cAt [1,1,1] WA) t)) (BZ base)))))) t H d) [(1,t1),(2,t2),(4,t4),(5,t5),(9,t9),(10,t10),(11,t11)] H []
def F2 (base : Nat) (t4 t5 : V) (H : Qa) : Option (Out × Qa) :=
Mt base (cAt [1,1,1] WA) (BZ base) [(4,t4),(5,t5)] H []
theorem Qre (base : Nat) (t4 t5 : V) (H : Qa) : F2 base t4 t5 H =
 bcall (E Gm [t5] H) (fun v35 h36 =>
 beff (Qs base 6 h36 t4 v35) fun v37 h38 =>
 bnd (Qd true 6 h38 t4) fun v39 =>
 rt false base v39 h38)
 (fun v35 h36 => pn false base v35 h36) := by kernel_rfl
theorem Au (base : Nat) (t1 t2 t4 t5 t9 t10 t11 : V) (H : Qa) : P1 base t1 t2 t4 t5 t9 t10 t11 H =
 bnd (Qb .lss 6 t11 t10) fun v7 =>
 cnd v7
 (bnd (Qx 6 t9 t11) fun v8 =>
 bnd (Qd true 6 H v8) fun v9 =>
 beff (QB H (.agg [(.int .i64 0),(.int .u64 0),(.int .u64 0),(.int .u64 0),(.int .u64 0),.nils])) fun v10 h11 =>
 beff (Qs base 6 h11 v10 v9) fun v12 h13 =>
 bnd (Qp t2 5) fun v14 =>
 bnd (Qd false 1 h13 v14) fun v15 =>
 bnd (Qb .add 6 t11 (.int .i64 1)) fun v16 =>
 bnd (JP 6 v15 (some v16) none none) fun v17 =>
 bcall (E LJ [v17] h13) (fun v18 h19 =>
 bnd (bnd (Qd true 6 h19 v10) fun v20 => sch (sam (Qd true 6 h13 v10) v20) (
 some v20)) fun v20 =>
 bcall (E YG [v20,t1] h19) (fun v21 h22 =>
 bnd (Zr 6 1 (.agg [(.int .i64 0),(.int .u64 0),(.int .u64 0),(.int .u64 0),(.int .u64 0),(.vs [])]) [(0,v21)]) fun v23 =>
 bcall (E B8 [v18,(.int .i64 0),v23] h22) (fun v24 h25 =>
 bcall (E Px [v24] h25) (fun v26 h27 =>
 bnd (Zr 6 1 (.agg [(.int .i64 0),(.int .u64 0),(.int .u64 0),(.int .u64 0),(.int .u64 0),(.vs [])]) [(0,v26)]) fun v28 =>
 beff (Z6 base 6 64 true t5 v28 h27) fun v29 h30 =>
 bnd (Qd true 6 h30 v10) fun v31 =>
 bcall (E Jq [v31] h30) (fun v32 h33 =>
 bnd (oUn .not v32) fun v34 =>
 cnd v34
 (F2 base t4 v29 h33)
 (bnd (Qb .add 6 t11 (.int .i64 1)) fun v40 =>
 P1 base t1 t2 t4 v29 t9 t10 v40 h33))
 (fun v32 h33 => pn false base v32 h33))
 (fun v26 h27 => pn false base v26 h27))
 (fun v24 h25 => pn false base v24 h25))
 (fun v21 h22 => pn false base v21 h22))
 (fun v18 h19 => sch (tlb (Qd true 6 h13 v10) fun v41 => tlb (QK t1) fun v42 => true) (pn false base v18 h19)))
 (F2 base t4 t5 H) := (Za (cAt [1,1,0,1,0,0] WA) ((Qe 0 ((Qg (fun _ t => Mt base (cAt [1,1,1] WA) (BZ base) (Qf Gx (cAt [1,1,1] WA) t)) (BZ base))))) _ H []).trans (by kernel_rfl)
def Qa4 (base : Nat) (t0 t1 : V) (H : Qa) : Option (Out × Qa) := Mt base WA (BZ base) [(0,t0),(1,t1)] H []
theorem QjF (base : Nat) (t0 t1 : V) (H : Qa) : Qa4 base t0 t1 H =
 beff (QB H t0) fun v0 h1 =>
 beff (QB h1 (.agg [(.int .i64 0),(.int .u64 0),(.int .u64 0),(.int .u64 0),(.int .u64 0),.nils])) fun v2 h3 =>
 bnd (Qp v0 5) fun v4 =>
 bnd (Qd false 1 h3 v4) fun v5 =>
 bnd (QM v5) fun v6 =>
 P1 base t1 v0 v2 .nils v5 v6 (.int .i64 0) h3 := by kernel_rfl
theorem QpC (t0 t1 : V) (H : Qa) : E DZ [t0,t1] H = Qa4 H.length t0 t1 H := (QR Tryd.func30 (by kernel_rfl) (by kernel_rfl) (by kernel_rfl)).trans (by kernel_rfl)
def V9 : Code := QO Tryd.f31
def Pg : Ks := [(3,[1,4,5,13,14,15])]
def NH (base : Nat) : KC (Out × Qa) := QN Tryd.prog D false base 29 Tryd.f31.results.toList
def FI (base : Nat) (c : Code) (k : KC (Out × Qa)) (t : Ts) (H : Qa) (d : Ds) : Option (Out × Qa) := xC Tryd.prog base false Pg E 29 c k t H d
def GJ (base : Nat) (t1 t4 t5 t13 t14 t15 : V) (H : Qa) : Option (Out × Qa) :=
Qt (fun t H d again => FI base (cAt [1,1,0,1,0,0] V9) (Ql Pg (cAt [1,1,0,1,0,0] V9) again ((Qe 0 ((Qg (fun _ t => FI base (cAt [1,1,1] V9) (NH base) (Qf Pg (cAt [1,1,1] V9) t)) (NH base)))))) t H d) [(1,t1),(4,t4),(5,t5),(13,t13),(14,t14),(15,t15)] H []
theorem QcH (base : Nat) (t1 t4 t5 t13 t14 t15 : V) (H : Qa) : GJ base t1 t4 t5 t13 t14 t15 H =
 bnd (Qb .lss 6 t15 t14) fun v12 =>
 cnd v12
 (bnd (Qx 6 t13 t15) fun v13 =>
 bnd (Qd true 6 H v13) fun v14 =>
 beff (QB H (.agg [(.int .i64 0),(.int .u64 0),(.int .u64 0),(.int .u64 0),(.int .u64 0),.nils])) fun v15 h16 =>
 beff (Qs base 6 h16 v15 v14) fun v17 h18 =>
 bnd (Qd true 6 h18 v15) fun v19 =>
 bcall (E YG [v19,t1] h18) (fun v20 h21 =>
 bnd (Qx 6 t5 t15) fun v22 =>
 beff (Qs base 6 h21 v22 v20) fun v23 h24 =>
 bnd (Qb .add 6 t15 (.int .i64 1)) fun v25 =>
 GJ base t1 t4 t5 t13 t14 v25 h24)
 (fun v20 h21 => pn false base v20 h21))
 (bcall (E Gm [t5] H) (fun v26 h27 =>
 beff (Qs base 6 h27 t4 v26) fun v28 h29 =>
 bnd (Qd true 6 h29 t4) fun v30 =>
 rt false base v30 h29)
 (fun v26 h27 => pn false base v26 h27)) := (Za (cAt [1,1,0,1,0,0] V9) ((Qe 0 ((Qg (fun _ t => FI base (cAt [1,1,1] V9) (NH base) (Qf Pg (cAt [1,1,1] V9) t)) (NH base))))) _ H []).trans (by kernel_rfl)
def X5 (base : Nat) (t0 t1 : V) (H : Qa) : Option (Out × Qa) := FI base V9 (NH base) [(0,t0),(1,t1)] H []
theorem QkU (base : Nat) (t0 t1 : V) (H : Qa) : X5 base t0 t1 H =
 beff (QB H t0) fun v0 h1 =>
 beff (QB h1 (.agg [(.int .i64 0),(.int .u64 0),(.int .u64 0),(.int .u64 0),(.int .u64 0),.nils])) fun v2 h3 =>
 bnd (Qp v0 5) fun v4 =>
 bnd (Qd false 1 h3 v4) fun v5 =>
 bnd (QM v5) fun v6 =>
 beff (R0 6 true 64 [(.int .i64 0),(.int .u64 0),(.int .u64 0),(.int .u64 0),(.int .u64 0),.nils] v6 v6 h3) fun v7 h8 =>
 bnd (Qp v0 5) fun v9 =>
 bnd (Qd false 1 h8 v9) fun v10 =>
 bnd (QM v10) fun v11 =>
 GJ base t1 v2 v7 v10 v11 (.int .i64 0) h8 := by kernel_rfl
theorem QkQ (t0 t1 : V) (H : Qa) : E ER [t0,t1] H = X5 H.length t0 t1 H := (QR Tryd.func31 (by kernel_rfl) (by kernel_rfl) (by kernel_rfl)).trans (by kernel_rfl)
def Qkc : Code := QO Tryd.f32
def Qob : Ks := []
def Qln (base : Nat) : KC (Out × Qa) := QN Tryd.prog D false base 13 Tryd.f32.results.toList
def QqI (base : Nat) (c : Code) (k : KC (Out × Qa)) (t : Ts) (H : Qa) (d : Ds) : Option (Out × Qa) := xC Tryd.prog base false Qob E 13 c k t H d
def QcC (base : Nat) (t0 : V) (H : Qa) : Option (Out × Qa) := QqI base Qkc (Qln base) [(0,t0)] H []
theorem Qk5 (base : Nat) (t0 : V) (H : Qa) : QcC base t0 H =
 beff (QB H (.agg [(.int .i64 0),(.int .u64 0),(.int .u64 0),(.int .u64 0),(.int .u64 0),.nils])) fun v0 h1 =>
 bcall (E P6 [t0,(.int .i64 3)] h1) (fun v2 h3 =>
 bcall (E Rq [(.int .i64 0)] h3) (fun v4 h5 =>
 bcall (E U3 [v2,v4] h5) (fun v6 h7 =>
 cnd v6
 (bnd (Zj [(.int .i64 0),(.int .u64 0),(.int .u64 0),(.int .u64 0),(.int .u64 0),.nils] [(0,1),(1,4),(5,1)] [(0,(.int .i64 0))]) fun v8 =>
 beff (Qs base 6 h7 v0 v8) fun v9 h10 =>
 bnd (Qd true 6 h10 v0) fun v11 =>
 rt false base v11 h10)
 (bcall (E Rq [(.int .i64 1)] h7) (fun v12 h13 =>
 bcall (E U2 [v2,v12] h13) (fun v14 h15 =>
 bcall (E LI [v14,(.int .i64 3),(.int .i64 1)] h15) (fun v16 h17 =>
 beff (Qs base 6 h17 v0 v16) fun v18 h19 =>
 bnd (Qd true 6 h19 v0) fun v20 =>
 rt false base v20 h19)
 (fun v16 h17 => pn false base v16 h17))
 (fun v14 h15 => pn false base v14 h15))
 (fun v12 h13 => pn false base v12 h13)))
 (fun v6 h7 => pn false base v6 h7))
 (fun v4 h5 => pn false base v4 h5))
 (fun v2 h3 => pn false base v2 h3) := by kernel_rfl
theorem Qqs (t0 : V) (H : Qa) : E Px [t0] H = QcC H.length t0 H := (QR Tryd.func32 (by kernel_rfl) (by kernel_rfl) (by kernel_rfl)).trans (by kernel_rfl)
def Qib : Code := QO Tryd.f33
def Qh0 : Ks := []
def Qn9 (base : Nat) : KC (Out × Qa) := QN Tryd.prog D false base 22 Tryd.f33.results.toList
def Qp6 (base : Nat) (c : Code) (k : KC (Out × Qa)) (t : Ts) (H : Qa) (d : Ds) : Option (Out × Qa) := xC Tryd.prog base false Qh0 E 22 c k t H d
def QcQ (base : Nat) (t0 t1 : V) (H : Qa) : Option (Out × Qa) := Qp6 base Qib (Qn9 base) [(0,t0),(1,t1)] H []
theorem A5 (base : Nat) (t0 t1 : V) (H : Qa) : QcQ base t0 t1 H =
 beff (QB H t0) fun v0 h1 =>
 bnd (Qb .geq 6 t1 (.int .i64 0)) fun v2 =>
 bnd (gua v2 true (QK t1) (some (.tup []))) fun v3 =>
 bnd (gua v2 true (Qb .lss 6 v3 (.int .i64 256)) (some (.tup []))) fun v4 =>
 bnd (QX v2 v4 (.bool false)) fun v5 =>
 bnd (gua v5 true (QK t1) (some (.tup []))) fun v6 =>
 bnd (gua v5 true (Qb .quo 6 v6 (.int .i64 64)) (some (.tup []))) fun v7 =>
 bnd (gua v5 true (K4 4 1 v0 v7) (some (.tup []))) fun v8 =>
 bnd (gua v5 true (Qd false 1 h1 v8) (some (.tup []))) fun v9 =>
 bnd (gua v5 true (QK t1) (some (.tup []))) fun v10 =>
 bnd (gua v5 true (Qb .rem 6 v10 (.int .i64 64)) (some (.tup []))) fun v11 =>
 bnd (gua v5 true (Qb .shr 6 v9 v11) (some (.tup []))) fun v12 =>
 bnd (gua v5 true (Qb .and 6 v12 (.int .u64 1)) (some (.tup []))) fun v13 =>
 bnd (gua v5 true (Qb .eql 6 v13 (.int .u64 1)) (some (.tup []))) fun v14 =>
 bnd (QX v5 v14 (.bool false)) fun v15 =>
 rt false base v15 h1 := by kernel_rfl
theorem Dg (t0 t1 : V) (H : Qa) : E W9 [t0,t1] H = QcQ H.length t0 t1 H := (QR Tryd.func33 (by kernel_rfl) (by kernel_rfl) (by kernel_rfl)).trans (by kernel_rfl)
def QfJ : Code := QO Tryd.f34
def Qo8 : Ks := [(4,[0,1,4,5])]
def QeD (base : Nat) : KC (Out × Qa) := QN Tryd.prog D false base 60 Tryd.f34.results.toList
def XY (base : Nat) (c : Code) (k : KC (Out × Qa)) (t : Ts) (H : Qa) (d : Ds) : Option (Out × Qa) := xC Tryd.prog base false Qo8 E 60 c k t H d
def Fy (base : Nat) (t0 t1 t4 t5 : V) (H : Qa) : Option (Out × Qa) :=
XY base (cAt [1,1,1] QfJ) (QeD base) [(0,t0),(1,t1),(4,t4),(5,t5)] H []
theorem Mi (base : Nat) (t0 t1 t4 t5 : V) (H : Qa) : Fy base t0 t1 t4 t5 H =
 bnd (Qb .lss 6 t5 (.int .i64 4)) fun v6 =>
 cnd v6
 (bcall (E Vm [t0,(.int .i64 3)] H) (fun v7 h8 =>
 bnd (Qb .add 6 (.int .i64 97) v7) fun v9 =>
 bcall (E Vm [t0,(.int .i64 4)] h8) (fun v10 h11 =>
 bnd (Qb .quo 6 v10 (.int .i64 3)) fun v12 =>
 bnd (Qb .add 6 v9 v12) fun v13 =>
 bcall (E EW [v9,v13] h11) (fun v14 h15 =>
 beff (Qs base 6 h15 t4 v14) fun v16 h17 =>
 bnd (Qd true 6 h17 t4) fun v18 =>
 rt false base v18 h17)
 (fun v14 h15 => pn false base v14 h15))
 (fun v10 h11 => pn false base v10 h11))
 (fun v7 h8 => pn false base v7 h8))
 (bnd (Qb .eql 6 t5 (.int .i64 4)) fun v19 =>
 cnd v19
 (bcall (E Vm [t0,(.int .i64 4)] H) (fun v20 h21 =>
 bnd (Qb .quo 6 v20 (.int .i64 3)) fun v22 =>
 bnd (Zj [(.int .i64 0),(.int .u64 0),(.int .u64 0),(.int .u64 0),(.int .u64 0),.nils] [(0,1),(1,4),(5,1)] [(0,v22)]) fun v23 =>
 beff (Qs base 6 h21 t4 v23) fun v24 h25 =>
 bnd (Qd true 6 h25 t4) fun v26 =>
 rt false base v26 h25)
 (fun v20 h21 => pn false base v20 h21))
 (bnd (Qb .lss 6 t5 (.int .i64 7)) fun v27 =>
 cnd v27
 (bnd (Qb .sub 6 t1 (.int .i64 1)) fun v28 =>
 bcall (E N8 [t0,v28] H) (fun v29 h30 =>
 bcall (E WC [v29] h30) (fun v31 h32 =>
 beff (Qs base 6 h32 t4 v31) fun v33 h34 =>
 bnd (Qd true 6 h34 t4) fun v35 =>
 rt false base v35 h34)
 (fun v31 h32 => pn false base v31 h32))
 (fun v29 h30 => pn false base v29 h30))
 (bnd (Qb .lss 6 t5 (.int .i64 9)) fun v36 =>
 cnd v36
 (bcall (E Vm [t0,(.int .i64 3)] H) (fun v37 h38 =>
 bnd (Qb .add 6 (.int .i64 1) v37) fun v39 =>
 bnd (Qb .sub 6 t1 (.int .i64 1)) fun v40 =>
 bcall (E FK [t0,v39,v40] h38) (fun v41 h42 =>
 bcall (E VT [v41] h42) (fun v43 h44 =>
 beff (Qs base 6 h44 t4 v43) fun v45 h46 =>
 bnd (Qd true 6 h46 t4) fun v47 =>
 rt false base v47 h46)
 (fun v43 h44 => pn false base v43 h44))
 (fun v41 h42 => pn false base v41 h42))
 (fun v37 h38 => pn false base v37 h38))
 (bcall (E Vm [t0,(.int .i64 3)] H) (fun v48 h49 =>
 bnd (Qb .add 6 (.int .i64 1) v48) fun v50 =>
 bnd (Qb .sub 6 t1 (.int .i64 1)) fun v51 =>
 bcall (E FK [t0,v50,v51] h49) (fun v52 h53 =>
 bcall (E UY [v52] h53) (fun v54 h55 =>
 beff (Qs base 6 h55 t4 v54) fun v56 h57 =>
 bnd (Qd true 6 h57 t4) fun v58 =>
 rt false base v58 h57)
 (fun v54 h55 => pn false base v54 h55))
 (fun v52 h53 => pn false base v52 h53))
 (fun v48 h49 => pn false base v48 h49))))) := by kernel_rfl
def QeR (base : Nat) (t0 t1 : V) (H : Qa) : Option (Out × Qa) := XY base QfJ (QeD base) [(0,t0),(1,t1)] H []
theorem Lh (base : Nat) (t0 t1 : V) (H : Qa) : QeR base t0 t1 H =
 beff (QB H (.agg [(.int .i64 0),(.int .u64 0),(.int .u64 0),(.int .u64 0),(.int .u64 0),.nils])) fun v0 h1 =>
 bcall (E Vm [t0,(.int .i64 11)] h1) (fun v2 h3 =>
 bnd (Qb .lss 6 t1 (.int .i64 1)) fun v4 =>
 cnd v4
 (bnd (Qb .rem 6 v2 (.int .i64 5)) fun v5 =>
 Fy base t0 t1 v0 v5 h3)
 (Fy base t0 t1 v0 v2 h3))
 (fun v2 h3 => pn false base v2 h3) := by kernel_rfl
theorem MP (t0 t1 : V) (H : Qa) : E N8 [t0,t1] H = QeR H.length t0 t1 H := (QR Tryd.func34 (by kernel_rfl) (by kernel_rfl) (by kernel_rfl)).trans (by kernel_rfl)
def WT : Code := QO Tryd.f35
def F4 : Ks := [(3,[0,1,5,6])]
def Nr (base : Nat) : KC (Out × Qa) := QN Tryd.prog D false base 31 Tryd.f35.results.toList
def Eb (base : Nat) (c : Code) (k : KC (Out × Qa)) (t : Ts) (H : Qa) (d : Ds) : Option (Out × Qa) := xC Tryd.prog base false F4 E 31 c k t H d
def NX (base : Nat) (t0 t1 t5 t6 : V) (H : Qa) : Option (Out × Qa) :=
Qt (fun t H d again => Eb base (cAt [1,1,0,1,0,0] WT) (Ql F4 (cAt [1,1,0,1,0,0] WT) again ((Qe 0 ((Qg (fun _ t => Eb base (cAt [1,1,1] WT) (Nr base) (Qf F4 (cAt [1,1,1] WT) t)) (Nr base)))))) t H d) [(0,t0),(1,t1),(5,t5),(6,t6)] H []
theorem Dv (base : Nat) (t0 t1 t5 t6 : V) (H : Qa) : NX base t0 t1 t5 t6 H =
 bnd (QM t0) fun v0 =>
 bnd (Qb .lss 6 t6 v0) fun v1 =>
 bnd (gua v1 true (QK t6) (some (.tup []))) fun v2 =>
 bnd (gua v1 true (Qb .lss 6 v2 (.int .i64 14)) (some (.tup []))) fun v3 =>
 bnd (QX v1 v3 (.bool false)) fun v4 =>
 cnd v4
 (bnd (Qx 1 t0 t6) fun v5 =>
 bnd (Qd false 1 H v5) fun v6 =>
 bnd (Yc .i64 v6) fun v7 =>
 bnd (QM t1) fun v8 =>
 bnd (Qb .rem 6 v7 v8) fun v9 =>
 bnd (Qx 1 t1 v9) fun v10 =>
 bnd (Qd false 1 H v10) fun v11 =>
 bnd (Qb .add 6 t5 v11) fun v12 =>
 bnd (Qb .add 6 t6 (.int .i64 1)) fun v13 =>
 NX base t0 t1 v12 v13 H)
 (rt false base t5 H) := (Za (cAt [1,1,0,1,0,0] WT) ((Qe 0 ((Qg (fun _ t => Eb base (cAt [1,1,1] WT) (Nr base) (Qf F4 (cAt [1,1,1] WT) t)) (Nr base))))) _ H []).trans (by kernel_rfl)
def QfP (base : Nat) (t0 t1 : V) (H : Qa) : Option (Out × Qa) := Eb base WT (Nr base) [(0,t0),(1,t1)] H []
theorem Qjo (base : Nat) (t0 t1 : V) (H : Qa) : QfP base t0 t1 H =
 NX base t0 t1 (.str []) (.int .i64 0) H := by kernel_rfl
theorem QkH (t0 t1 : V) (H : Qa) : E AC [t0,t1] H = QfP H.length t0 t1 H := (QR Tryd.func35 (by kernel_rfl) (by kernel_rfl) (by kernel_rfl)).trans (by kernel_rfl)
def Y8 : Code := QO Tryd.f37
def VF : Ks := [(3,[0,1,5,6]),(4,[0,1,5,6])]
def WB (base : Nat) : KC (Out × Qa) := QN Tryd.prog D false base 35 Tryd.f37.results.toList
def W4 (base : Nat) (c : Code) (k : KC (Out × Qa)) (t : Ts) (H : Qa) (d : Ds) : Option (Out × Qa) := xC Tryd.prog base false VF E 35 c k t H d
def MQ (base : Nat) (t0 t1 t5 t6 : V) (H : Qa) : Option (Out × Qa) :=
Qt (fun t H d again => W4 base (cAt [1,1,0,1,0,0] Y8) (Ql VF (cAt [1,1,0,1,0,0] Y8) again ((Qe 0 ((Qg (fun _ t => W4 base (cAt [1,1,1] Y8) (WB base) (Qf VF (cAt [1,1,1] Y8) t)) (WB base)))))) t H d) [(0,t0),(1,t1),(5,t5),(6,t6)] H []
def GF (base : Nat) (t0 t1 t5 t6 : V) (H : Qa) : Option (Out × Qa) :=
W4 base (cAt [1,1,0,1,0,0,1,1] Y8) ((Ql VF (cAt [1,1,0,1,0,0] Y8) (Qt (fun t H d again => W4 base (cAt [1,1,0,1,0,0] Y8) (Ql VF (cAt [1,1,0,1,0,0] Y8) again ((Qe 0 ((Qg (fun _ t => W4 base (cAt [1,1,1] Y8) (WB base) (Qf VF (cAt [1,1,1] Y8) t)) (WB base)))))) t H d)) ((Qe 0 ((Qg (fun _ t => W4 base (cAt [1,1,1] Y8) (WB base) (Qf VF (cAt [1,1,1] Y8) t)) (WB base))))))) [(0,t0),(1,t1),(5,t5),(6,t6)] H []
theorem QiS (base : Nat) (t0 t1 t5 t6 : V) (H : Qa) : GF base t0 t1 t5 t6 H =
 bnd (Qb .add 6 t6 (.int .i64 1)) fun v11 =>
 MQ base t0 t1 t5 v11 H := by kernel_rfl
theorem Qjp (base : Nat) (t0 t1 t5 t6 : V) (H : Qa) : MQ base t0 t1 t5 t6 H =
 bnd (QM t0) fun v0 =>
 bnd (Qb .lss 6 t6 v0) fun v1 =>
 cnd v1
 (bnd (Qx 6 t0 t6) fun v2 =>
 bnd (Qp v2 0) fun v3 =>
 bnd (Qd false 1 H v3) fun v4 =>
 bnd (Qb .eql 6 v4 t1) fun v5 =>
 cnd v5
 (bnd (Qx 6 t0 t6) fun v6 =>
 bnd (Qp v6 5) fun v7 =>
 bnd (Qd false 1 H v7) fun v8 =>
 beff (Z6 base 6 64 true t5 v8 H) fun v9 h10 =>
 GF base t0 t1 v9 t6 h10)
 (bnd (Qx 6 t0 t6) fun v12 =>
 bnd (Qd true 6 H v12) fun v13 =>
 bnd (Zr 6 1 (.agg [(.int .i64 0),(.int .u64 0),(.int .u64 0),(.int .u64 0),(.int .u64 0),(.vs [])]) [(0,v13)]) fun v14 =>
 beff (Z6 base 6 64 true t5 v14 H) fun v15 h16 =>
 GF base t0 t1 v15 t6 h16))
 (rt false base t5 H) := (Za (cAt [1,1,0,1,0,0] Y8) ((Qe 0 ((Qg (fun _ t => W4 base (cAt [1,1,1] Y8) (WB base) (Qf VF (cAt [1,1,1] Y8) t)) (WB base))))) _ H []).trans (by kernel_rfl)
def QhG (base : Nat) (t0 t1 : V) (H : Qa) : Option (Out × Qa) := W4 base Y8 (WB base) [(0,t0),(1,t1)] H []
theorem Qj0 (base : Nat) (t0 t1 : V) (H : Qa) : QhG base t0 t1 H =
 MQ base t0 t1 .nils (.int .i64 0) H := by kernel_rfl
theorem Qqe (t0 t1 : V) (H : Qa) : E L9 [t0,t1] H = QhG H.length t0 t1 H := (QR Tryd.func37 (by kernel_rfl) (by kernel_rfl) (by kernel_rfl)).trans (by kernel_rfl)
def QiW : Code := QO Tryd.f38
def Qj8 : Ks := []
def QnN (base : Nat) : KC (Out × Qa) := QN Tryd.prog D false base 14 Tryd.f38.results.toList
def QqF (base : Nat) (c : Code) (k : KC (Out × Qa)) (t : Ts) (H : Qa) (d : Ds) : Option (Out × Qa) := xC Tryd.prog base false Qj8 E 14 c k t H d
def Qc8 (base : Nat) (t0 t1 : V) (H : Qa) : Option (Out × Qa) := QqF base QiW (QnN base) [(0,t0),(1,t1)] H []
theorem Qp3 (base : Nat) (t0 t1 : V) (H : Qa) : Qc8 base t0 t1 H =
 beff (QB H (.agg [(.int .i64 0),(.int .u64 0),(.int .u64 0),(.int .u64 0),(.int .u64 0),.nils])) fun v0 h1 =>
 bnd (QM t0) fun v2 =>
 bnd (Qb .eql 6 v2 (.int .i64 1)) fun v3 =>
 cnd v3
 (bnd (Qx 6 t0 (.int .i64 0)) fun v4 =>
 bnd (Qd true 6 h1 v4) fun v5 =>
 beff (Qs base 6 h1 v0 v5) fun v6 h7 =>
 bnd (Qd true 6 h7 v0) fun v8 =>
 rt false base v8 h7)
 (bnd (Zj [(.int .i64 0),(.int .u64 0),(.int .u64 0),(.int .u64 0),(.int .u64 0),.nils] [(0,1),(1,4),(5,1)] [(0,t1),(2,t0)]) fun v9 =>
 beff (Qs base 6 h1 v0 v9) fun v10 h11 =>
 bnd (Qd true 6 h11 v0) fun v12 =>
 rt false base v12 h11) := by kernel_rfl
theorem QmT (t0 t1 : V) (H : Qa) : E F1 [t0,t1] H = Qc8 H.length t0 t1 H := (QR Tryd.func38 (by kernel_rfl) (by kernel_rfl) (by kernel_rfl)).trans (by kernel_rfl)
def Qpo : Code := QO Tryd.f39
def QmX : Ks := []
def Qni (base : Nat) : KC (Out × Qa) := QN Tryd.prog D false base 17 Tryd.f39.results.toList
def Qiv (base : Nat) (c : Code) (k : KC (Out × Qa)) (t : Ts) (H : Qa) (d : Ds) : Option (Out × Qa) := xC Tryd.prog base false QmX E 17 c k t H d
def QgG (base : Nat) (t0 t1 : V) (H : Qa) : Option (Out × Qa) := Qiv base Qpo (Qni base) [(0,t0),(1,t1)] H []
theorem QkS (base : Nat) (t0 t1 : V) (H : Qa) : QgG base t0 t1 H =
 beff (QB H t0) fun v0 h1 =>
 beff (QB h1 (.agg [(.int .u64 0),(.int .u64 0),(.int .u64 0),(.int .u64 0)])) fun v2 h3 =>
 bnd (Qb .quo 6 t1 (.int .i64 64)) fun v4 =>
 bnd (Qb .quo 6 t1 (.int .i64 64)) fun v5 =>
 bnd (K4 4 1 v0 v5) fun v6 =>
 bnd (Qd false 1 h3 v6) fun v7 =>
 bnd (Qb .rem 6 t1 (.int .i64 64)) fun v8 =>
 bnd (Qb .shl 6 (.int .u64 1) v8) fun v9 =>
 bnd (Qb .or 6 v7 v9) fun v10 =>
 bnd (K4 4 1 v0 v4) fun v11 =>
 beff (Qs base 1 h3 v11 v10) fun v12 h13 =>
 bnd (Qd true 4 h13 v0) fun v14 =>
 beff (Qs base 4 h13 v2 v14) fun v15 h16 =>
 bnd (Qd true 4 h16 v2) fun v17 =>
 rt false base v17 h16 := by kernel_rfl
theorem Qls (t0 t1 : V) (H : Qa) : E PR [t0,t1] H = QgG H.length t0 t1 H := (QR Tryd.func39 (by kernel_rfl) (by kernel_rfl) (by kernel_rfl)).trans (by kernel_rfl)
def YX : Code := QO Tryd.f40
def V1 : Ks := [(3,[1,3,4]),(4,[1,3,4])]
def Wy (base : Nat) : KC (Out × Qa) := QN Tryd.prog D false base 15 Tryd.f40.results.toList
def VM (base : Nat) (c : Code) (k : KC (Out × Qa)) (t : Ts) (H : Qa) (d : Ds) : Option (Out × Qa) := xC Tryd.prog base false V1 E 15 c k t H d
def NY (base : Nat) (t1 t3 t4 : V) (H : Qa) : Option (Out × Qa) :=
Qt (fun t H d again => VM base (cAt [1,1,0,1,0,0] YX) (Ql V1 (cAt [1,1,0,1,0,0] YX) again ((Qe 0 ((Qg (fun _ t => VM base (cAt [1,1,1] YX) (Wy base) (Qf V1 (cAt [1,1,1] YX) t)) (Wy base)))))) t H d) [(1,t1),(3,t3),(4,t4)] H []
def FL (base : Nat) (t1 t3 t4 : V) (H : Qa) : Option (Out × Qa) :=
VM base (cAt [1,1,0,1,0,0,1,1] YX) ((Ql V1 (cAt [1,1,0,1,0,0] YX) (Qt (fun t H d again => VM base (cAt [1,1,0,1,0,0] YX) (Ql V1 (cAt [1,1,0,1,0,0] YX) again ((Qe 0 ((Qg (fun _ t => VM base (cAt [1,1,1] YX) (Wy base) (Qf V1 (cAt [1,1,1] YX) t)) (Wy base)))))) t H d)) ((Qe 0 ((Qg (fun _ t => VM base (cAt [1,1,1] YX) (Wy base) (Qf V1 (cAt [1,1,1] YX) t)) (Wy base))))))) [(1,t1),(3,t3),(4,t4)] H []
theorem Qkp (base : Nat) (t1 t3 t4 : V) (H : Qa) : FL base t1 t3 t4 H =
 bnd (Qb .add 6 t4 (.int .i64 1)) fun v7 =>
 NY base t1 t3 v7 H := by kernel_rfl
theorem QmI (base : Nat) (t1 t3 t4 : V) (H : Qa) : NY base t1 t3 t4 H =
 bnd (Qb .lss 6 t4 (.int .i64 256)) fun v2 =>
 cnd v2
 (bnd (Qd true 4 H t1) fun v3 =>
 bcall (E W9 [v3,t4] H) (fun v4 h5 =>
 cnd v4
 (bnd (Qb .add 6 t3 (.int .i64 1)) fun v6 =>
 FL base t1 v6 t4 h5)
 (FL base t1 t3 t4 h5))
 (fun v4 h5 => pn false base v4 h5))
 (rt false base t3 H) := (Za (cAt [1,1,0,1,0,0] YX) ((Qe 0 ((Qg (fun _ t => VM base (cAt [1,1,1] YX) (Wy base) (Qf V1 (cAt [1,1,1] YX) t)) (Wy base))))) _ H []).trans (by kernel_rfl)
def T4 (base : Nat) (t0 : V) (H : Qa) : Option (Out × Qa) := VM base YX (Wy base) [(0,t0)] H []
theorem QmR (base : Nat) (t0 : V) (H : Qa) : T4 base t0 H =
 beff (QB H t0) fun v0 h1 =>
 NY base v0 (.int .i64 0) (.int .i64 0) h1 := by kernel_rfl
theorem Qom (t0 : V) (H : Qa) : E Ub [t0] H = T4 H.length t0 H := (QR Tryd.func40 (by kernel_rfl) (by kernel_rfl) (by kernel_rfl)).trans (by kernel_rfl)
def Qks : Code := QO Tryd.f41
def QhX : Ks := []
def Qk4 (base : Nat) : KC (Out × Qa) := QN Tryd.prog D false base 8 Tryd.f41.results.toList
def Qiz (base : Nat) (c : Code) (k : KC (Out × Qa)) (t : Ts) (H : Qa) (d : Ds) : Option (Out × Qa) := xC Tryd.prog base false QhX E 8 c k t H d
def Qc2 (base : Nat) (t0 t1 : V) (H : Qa) : Option (Out × Qa) := Qiz base Qks (Qk4 base) [(0,t0),(1,t1)] H []
theorem Qh4 (base : Nat) (t0 t1 : V) (H : Qa) : Qc2 base t0 t1 H =
 beff (QB H t0) fun v0 h1 =>
 beff (QB h1 t1) fun v2 h3 =>
 beff (QB h3 (.agg [(.int .u64 0),(.int .u64 0),(.int .u64 0),(.int .u64 0)])) fun v4 h5 =>
 bnd (Qd true 4 h5 v0) fun v6 =>
 bnd (Qd true 4 h5 v2) fun v7 =>
 bcall (E AG [v6,v7,(.bool false),(.bool true),(.bool true),(.bool true)] h5) (fun v8 h9 =>
 beff (Qs base 4 h9 v4 v8) fun v10 h11 =>
 bnd (Qd true 4 h11 v4) fun v12 =>
 rt false base v12 h11)
 (fun v8 h9 => pn false base v8 h9) := by kernel_rfl
theorem QiN (t0 t1 : V) (H : Qa) : E De [t0,t1] H = Qc2 H.length t0 t1 H := (QR Tryd.func41 (by kernel_rfl) (by kernel_rfl) (by kernel_rfl)).trans (by kernel_rfl)
def QnD : Code := QO Tryd.f42
def Qlh : Ks := []
def Qqp (base : Nat) : KC (Out × Qa) := QN Tryd.prog D false base 9 Tryd.f42.results.toList
def Qrv (base : Nat) (c : Code) (k : KC (Out × Qa)) (t : Ts) (H : Qa) (d : Ds) : Option (Out × Qa) := xC Tryd.prog base false Qlh E 9 c k t H d
def XR (base : Nat) (t0 : V) (H : Qa) : Option (Out × Qa) := Qrv base QnD (Qqp base) [(0,t0)] H []
theorem QjN (base : Nat) (t0 : V) (H : Qa) : XR base t0 H =
 beff (QB H t0) fun v0 h1 =>
 beff (QB h1 (.agg [(.int .i64 0),(.int .u64 0),(.int .u64 0),(.int .u64 0),(.int .u64 0),.nils])) fun v2 h3 =>
 bnd (Qd true 4 h3 v0) fun v4 =>
 bcall (E Ub [v4] h3) (fun v5 h6 =>
 bnd (Qb .eql 6 v5 (.int .i64 0)) fun v7 =>
 cnd v7
 (bnd (Zj [(.int .i64 0),(.int .u64 0),(.int .u64 0),(.int .u64 0),(.int .u64 0),.nils] [(0,1),(1,4),(5,1)] []) fun v8 =>
 beff (Qs base 6 h6 v2 v8) fun v9 h10 =>
 bnd (Qd true 6 h10 v2) fun v11 =>
 rt false base v11 h10)
 (bnd (Qd true 4 h6 v0) fun v12 =>
 bnd (Zj [(.int .i64 0),(.int .u64 0),(.int .u64 0),(.int .u64 0),(.int .u64 0),.nils] [(0,1),(1,4),(5,1)] [(0,(.int .i64 2)),(1,v12)]) fun v13 =>
 beff (Qs base 6 h6 v2 v13) fun v14 h15 =>
 bnd (Qd true 6 h15 v2) fun v16 =>
 rt false base v16 h15))
 (fun v5 h6 => pn false base v5 h6) := by kernel_rfl
theorem Qky (t0 : V) (H : Qa) : E Dn [t0] H = XR H.length t0 H := (QR Tryd.func42 (by kernel_rfl) (by kernel_rfl) (by kernel_rfl)).trans (by kernel_rfl)
end
end Go.Proofs.YtdnmpaielmfiiaaDoor
end
