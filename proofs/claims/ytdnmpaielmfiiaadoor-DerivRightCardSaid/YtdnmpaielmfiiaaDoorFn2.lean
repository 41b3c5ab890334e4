/- Fn2: a part of the proof that each law of this seat answers true at every input. No condition. -/
import Derived.Test.YtdnmpaielmfiiaaDoorHint
import Derived.KernelRfl
set_option linter.unusedVariables false
set_option linter.unusedSimpArgs false
set_option maxRecDepth 20000
section
namespace Go.Proofs.YtdnmpaielmfiiaaDoor
open Go Go.Ev
noncomputable section
def Wi : Code := QO Tryd.f25
def GG : Ks := [(2,[1,3]),(20,[])]
def BX (base : Nat) : KC (Out × Qa) := QP Tryd.prog D false base 89 Tryd.f25.results.toList
def R2 (base : Nat) (c : Code) (k : KC (Out × Qa)) (t : Ts) (H : Qa) (d : Ds) : Option (Out × Qa) := xC Tryd.prog base false GG E 89 c k t H d
def N0 (base : Nat) (t1 t3 : V) (H : Qa) : Option (Out × Qa) :=
Qt (fun t H d again => R2 base (cAt [1,0,1,0,0] Wi) (Ql GG (cAt [1,0,1,0,0] Wi) again ((Qe 0 ((Qg (fun _ t => R2 base (cAt [1,1] Wi) (BX base) (Qf GG (cAt [1,1] Wi) t)) (BX base)))))) t H d) [(1,t1),(3,t3)] H []
def Cd (base : Nat) (H : Qa) : Option (Out × Qa) :=
R2 base (cAt [1,1,1,1] Wi) (BX base) [] H []
theorem QpU (base : Nat) (H : Qa) : Cd base  H =
 rt false base (.bool false) H := by kernel_rfl
theorem Qhy (base : Nat) (t1 t3 : V) (H : Qa) : N0 base t1 t3 H =
 bnd (Qq t1 5) fun v2 =>
 bnd (Qc false 1 H v2) fun v3 =>
 bnd (QM v3) fun v4 =>
 bnd (Qb .lss 6 t3 v4) fun v5 =>
 cnd v5
 (bnd (Qq t1 5) fun v6 =>
 bnd (Qc false 1 H v6) fun v7 =>
 bnd (Qx 6 v7 t3) fun v8 =>
 bnd (Qc true 6 H v8) fun v9 =>
 bcall (E U6 [v9] H) (fun v10 h11 =>
 bnd (oUn .not v10) fun v12 =>
 cnd v12
 (rt false base (.bool false) h11)
 (bnd (Qb .add 6 t3 (.int .i64 1)) fun v13 =>
 N0 base t1 v13 h11))
 (fun v10 h11 => pn false base v10 h11))
 (bnd (Qq t1 0) fun v14 =>
 bnd (Qc false 1 H v14) fun v15 =>
 bnd (Qb .neq 6 v15 (.int .i64 2)) fun v16 =>
 bnd (gua v16 true (Qq t1 1) (some (.tup []))) fun v17 =>
 bnd (gua v16 true (Qc true 4 H v17) (some (.tup []))) fun v18 =>
 bcall (gua v16 true (E US [v18] H) (some (.ret (.tup []),H))) (fun v19 h20 =>
 bnd (gua v16 true (Qb .gtr 6 v19 (.int .i64 0)) (some (.tup []))) fun v21 =>
 bnd (QY v16 v21 (.bool false)) fun v22 =>
 cnd v22
 (rt false base (.bool false) h20)
 (bnd (Qq t1 0) fun v23 =>
 bnd (Qc false 1 h20 v23) fun v24 =>
 bnd (Qb .eql 6 v24 (.int .i64 0)) fun v25 =>
 cnd v25
 (cnd v25
 (bnd (Qq t1 5) fun v26 =>
 bnd (Qc false 1 h20 v26) fun v27 =>
 bnd (QM v27) fun v28 =>
 bnd (Qb .eql 6 v28 (.int .i64 0)) fun v29 =>
 rt false base v29 h20)
 (bnd (Qb .eql 6 v24 (.int .i64 2)) fun v30 =>
 cnd v30
 (bnd (Qq t1 5) fun v31 =>
 bnd (Qc false 1 h20 v31) fun v32 =>
 bnd (QM v32) fun v33 =>
 bnd (Qb .eql 6 v33 (.int .i64 0)) fun v34 =>
 bnd (gua v34 true (Qq t1 1) (some (.tup []))) fun v35 =>
 bnd (gua v34 true (Qc true 4 h20 v35) (some (.tup []))) fun v36 =>
 bcall (gua v34 true (E US [v36] h20) (some (.ret (.tup []),h20))) (fun v37 h38 =>
 bnd (gua v34 true (Qb .gtr 6 v37 (.int .i64 0)) (some (.tup []))) fun v39 =>
 bnd (QY v34 v39 (.bool false)) fun v40 =>
 rt false base v40 h38)
 (fun v37 h38 => pn false base v37 h38))
 (bnd (Qb .eql 6 v24 (.int .i64 5)) fun v41 =>
 cnd v41
 (bnd (Qq t1 5) fun v42 =>
 bnd (Qc false 1 h20 v42) fun v43 =>
 bnd (QM v43) fun v44 =>
 bnd (Qb .eql 6 v44 (.int .i64 1)) fun v45 =>
 bnd (gua v45 true (Qq t1 5) (some (.tup []))) fun v46 =>
 bnd (gua v45 true (Qc false 1 h20 v46) (some (.tup []))) fun v47 =>
 bnd (gua v45 true (Qx 6 v47 (.int .i64 0)) (some (.tup []))) fun v48 =>
 bnd (gua v45 true (Qc true 6 h20 v48) (some (.tup []))) fun v49 =>
 bcall (gua v45 true (E WI [v49] h20) (some (.ret (.tup []),h20))) (fun v50 h51 =>
 bnd (gua v45 true (bnd (Qc true 6 h51 t1) fun v52 => sch (sam (Qc true 6 h20 t1) v52) (
 some v52)) (some (.tup []))) fun v52 =>
 bcall (gua v45 true (E Jv [v50,v52] h51) (some (.ret (.tup []),h51))) (fun v53 h54 =>
 bnd (QY v45 v53 (.bool false)) fun v55 =>
 rt false base v55 h54)
 (fun v53 h54 => pn false base v53 h54))
 (fun v50 h51 => sch (tlb (gua v45 true (Qc true 6 h20 t1) (some (.tup []))) fun v56 => true) (pn false base v50 h51)))
 (bnd (Qb .eql 6 v24 (.int .i64 3)) fun v57 =>
 cnd v57
 (bnd (Qq t1 5) fun v58 =>
 bnd (Qc false 1 h20 v58) fun v59 =>
 bnd (QM v59) fun v60 =>
 bnd (Qb .gtr 6 v60 (.int .i64 1)) fun v61 =>
 bnd (gua v61 true (Qq t1 5) (some (.tup []))) fun v62 =>
 bnd (gua v61 true (Qc false 1 h20 v62) (some (.tup []))) fun v63 =>
 bcall (gua v61 true (E Vi [v63] h20) (some (.ret (.tup []),h20))) (fun v64 h65 =>
 bnd (gua v61 true (bnd (Qc true 6 h65 t1) fun v66 => sch (sam (Qc true 6 h20 t1) v66) (
 some v66)) (some (.tup []))) fun v66 =>
 bcall (gua v61 true (E Jv [v64,v66] h65) (some (.ret (.tup []),h65))) (fun v67 h68 =>
 bnd (QY v61 v67 (.bool false)) fun v69 =>
 rt false base v69 h68)
 (fun v67 h68 => pn false base v67 h68))
 (fun v64 h65 => sch (tlb (gua v61 true (Qc true 6 h20 t1) (some (.tup []))) fun v70 => true) (pn false base v64 h65)))
 (bnd (Qb .eql 6 v24 (.int .i64 4)) fun v71 =>
 cnd v71
 (bnd (Qq t1 5) fun v72 =>
 bnd (Qc false 1 h20 v72) fun v73 =>
 bnd (QM v73) fun v74 =>
 bnd (Qb .gtr 6 v74 (.int .i64 1)) fun v75 =>
 bnd (gua v75 true (Qq t1 5) (some (.tup []))) fun v76 =>
 bnd (gua v75 true (Qc false 1 h20 v76) (some (.tup []))) fun v77 =>
 bcall (gua v75 true (E V9 [v77] h20) (some (.ret (.tup []),h20))) (fun v78 h79 =>
 bnd (gua v75 true (bnd (Qc true 6 h79 t1) fun v80 => sch (sam (Qc true 6 h20 t1) v80) (
 some v80)) (some (.tup []))) fun v80 =>
 bcall (gua v75 true (E Jv [v78,v80] h79) (some (.ret (.tup []),h79))) (fun v81 h82 =>
 bnd (QY v75 v81 (.bool false)) fun v83 =>
 rt false base v83 h82)
 (fun v81 h82 => pn false base v81 h82))
 (fun v78 h79 => sch (tlb (gua v75 true (Qc true 6 h20 t1) (some (.tup []))) fun v84 => true) (pn false base v78 h79)))
 (Cd base  h20))))))
 (bnd (Qb .eql 6 v24 (.int .i64 1)) fun v85 =>
 cnd v85
 (bnd (Qq t1 5) fun v86 =>
 bnd (Qc false 1 h20 v86) fun v87 =>
 bnd (QM v87) fun v88 =>
 bnd (Qb .eql 6 v88 (.int .i64 0)) fun v89 =>
 rt false base v89 h20)
 (bnd (Qb .eql 6 v24 (.int .i64 2)) fun v90 =>
 cnd v90
 (bnd (Qq t1 5) fun v91 =>
 bnd (Qc false 1 h20 v91) fun v92 =>
 bnd (QM v92) fun v93 =>
 bnd (Qb .eql 6 v93 (.int .i64 0)) fun v94 =>
 bnd (gua v94 true (Qq t1 1) (some (.tup []))) fun v95 =>
 bnd (gua v94 true (Qc true 4 h20 v95) (some (.tup []))) fun v96 =>
 bcall (gua v94 true (E US [v96] h20) (some (.ret (.tup []),h20))) (fun v97 h98 =>
 bnd (gua v94 true (Qb .gtr 6 v97 (.int .i64 0)) (some (.tup []))) fun v99 =>
 bnd (QY v94 v99 (.bool false)) fun v100 =>
 rt false base v100 h98)
 (fun v97 h98 => pn false base v97 h98))
 (bnd (Qb .eql 6 v24 (.int .i64 5)) fun v101 =>
 cnd v101
 (bnd (Qq t1 5) fun v102 =>
 bnd (Qc false 1 h20 v102) fun v103 =>
 bnd (QM v103) fun v104 =>
 bnd (Qb .eql 6 v104 (.int .i64 1)) fun v105 =>
 bnd (gua v105 true (Qq t1 5) (some (.tup []))) fun v106 =>
 bnd (gua v105 true (Qc false 1 h20 v106) (some (.tup []))) fun v107 =>
 bnd (gua v105 true (Qx 6 v107 (.int .i64 0)) (some (.tup []))) fun v108 =>
 bnd (gua v105 true (Qc true 6 h20 v108) (some (.tup []))) fun v109 =>
 bcall (gua v105 true (E WI [v109] h20) (some (.ret (.tup []),h20))) (fun v110 h111 =>
 bnd (gua v105 true (bnd (Qc true 6 h111 t1) fun v112 => sch (sam (Qc true 6 h20 t1) v112) (
 some v112)) (some (.tup []))) fun v112 =>
 bcall (gua v105 true (E Jv [v110,v112] h111) (some (.ret (.tup []),h111))) (fun v113 h114 =>
 bnd (QY v105 v113 (.bool false)) fun v115 =>
 rt false base v115 h114)
 (fun v113 h114 => pn false base v113 h114))
 (fun v110 h111 => sch (tlb (gua v105 true (Qc true 6 h20 t1) (some (.tup []))) fun v116 => true) (pn false base v110 h111)))
 (bnd (Qb .eql 6 v24 (.int .i64 3)) fun v117 =>
 cnd v117
 (bnd (Qq t1 5) fun v118 =>
 bnd (Qc false 1 h20 v118) fun v119 =>
 bnd (QM v119) fun v120 =>
 bnd (Qb .gtr 6 v120 (.int .i64 1)) fun v121 =>
 bnd (gua v121 true (Qq t1 5) (some (.tup []))) fun v122 =>
 bnd (gua v121 true (Qc false 1 h20 v122) (some (.tup []))) fun v123 =>
 bcall (gua v121 true (E Vi [v123] h20) (some (.ret (.tup []),h20))) (fun v124 h125 =>
 bnd (gua v121 true (bnd (Qc true 6 h125 t1) fun v126 => sch (sam (Qc true 6 h20 t1) v126) (
 some v126)) (some (.tup []))) fun v126 =>
 bcall (gua v121 true (E Jv [v124,v126] h125) (some (.ret (.tup []),h125))) (fun v127 h128 =>
 bnd (QY v121 v127 (.bool false)) fun v129 =>
 rt false base v129 h128)
 (fun v127 h128 => pn false base v127 h128))
 (fun v124 h125 => sch (tlb (gua v121 true (Qc true 6 h20 t1) (some (.tup []))) fun v130 => true) (pn false base v124 h125)))
 (bnd (Qb .eql 6 v24 (.int .i64 4)) fun v131 =>
 cnd v131
 (bnd (Qq t1 5) fun v132 =>
 bnd (Qc false 1 h20 v132) fun v133 =>
 bnd (QM v133) fun v134 =>
 bnd (Qb .gtr 6 v134 (.int .i64 1)) fun v135 =>
 bnd (gua v135 true (Qq t1 5) (some (.tup []))) fun v136 =>
 bnd (gua v135 true (Qc false 1 h20 v136) (some (.tup []))) fun v137 =>
 bcall (gua v135 true (E V9 [v137] h20) (some (.ret (.tup []),h20))) (fun v138 h139 =>
 bnd (gua v135 true (bnd (Qc true 6 h139 t1) fun v140 => sch (sam (Qc true 6 h20 t1) v140) (
 some v140)) (some (.tup []))) fun v140 =>
 bcall (gua v135 true (E Jv [v138,v140] h139) (some (.ret (.tup []),h139))) (fun v141 h142 =>
 bnd (QY v135 v141 (.bool false)) fun v143 =>
 rt false base v143 h142)
 (fun v141 h142 => pn false base v141 h142))
 (fun v138 h139 => sch (tlb (gua v135 true (Qc true 6 h20 t1) (some (.tup []))) fun v144 => true) (pn false base v138 h139)))
 (Cd base  h20))))))))
 (fun v19 h20 => pn false base v19 h20)) := (Za (cAt [1,0,1,0,0] Wi) ((Qe 0 ((Qg (fun _ t => R2 base (cAt [1,1] Wi) (BX base) (Qf GG (cAt [1,1] Wi) t)) (BX base))))) _ H []).trans (by kernel_rfl)
def Qc7 (base : Nat) (t0 : V) (H : Qa) : Option (Out × Qa) := R2 base Wi (BX base) [(0,t0)] H []
theorem QhN (base : Nat) (t0 : V) (H : Qa) : Qc7 base t0 H =
 beff (QD H t0) fun v0 h1 =>
 N0 base v0 (.int .i64 0) h1 := by kernel_rfl
theorem Qou (t0 : V) (H : Qa) : E U6 [t0] H = Qc7 H.length t0 H := (QR Tryd.func25 (by kernel_rfl) (by kernel_rfl) (by kernel_rfl)).trans (by kernel_rfl)
def ZG : Code := QO Tryd.f26
def Jd : Ks := [(5,[2,3,4,5,6]),(6,[2,3,4,5,6]),(11,[2,3,4]),(12,[2,3,4,7]),(13,[2,3,4,7])]
def YA (base : Nat) : KC (Out × Qa) := QP Tryd.prog D false base 69 Tryd.f26.results.toList
def YO (base : Nat) (c : Code) (k : KC (Out × Qa)) (t : Ts) (H : Qa) (d : Ds) : Option (Out × Qa) := xC Tryd.prog base false Jd E 69 c k t H d
def Mw (base : Nat) (t2 t3 t4 t5 t6 : V) (H : Qa) : Option (Out × Qa) :=
Qt (fun t H d again => YO base (cAt [1,1,1,1,0,1,0,0] ZG) (Ql Jd (cAt [1,1,1,1,0,1,0,0] ZG) again ((Qe 0 ((Qg (fun _ t => YO base (cAt [1,1,1,1,1] ZG) (YA base) (Qf Jd (cAt [1,1,1,1,1] ZG) t)) (YA base)))))) t H d) [(2,t2),(3,t3),(4,t4),(5,t5),(6,t6)] H []
def GC (base : Nat) (t2 t3 t4 t5 t6 : V) (H : Qa) : Option (Out × Qa) :=
YO base (cAt [1,1,1,1,0,1,0,0,1,1] ZG) ((Ql Jd (cAt [1,1,1,1,0,1,0,0] ZG) (Qt (fun t H d again => YO base (cAt [1,1,1,1,0,1,0,0] ZG) (Ql Jd (cAt [1,1,1,1,0,1,0,0] ZG) again ((Qe 0 ((Qg (fun _ t => YO base (cAt [1,1,1,1,1] ZG) (YA base) (Qf Jd (cAt [1,1,1,1,1] ZG) t)) (YA base)))))) t H d)) ((Qe 0 ((Qg (fun _ t => YO base (cAt [1,1,1,1,1] ZG) (YA base) (Qf Jd (cAt [1,1,1,1,1] ZG) t)) (YA base))))))) [(2,t2),(3,t3),(4,t4),(5,t5),(6,t6)] H []
theorem QoC (base : Nat) (t2 t3 t4 t5 t6 : V) (H : Qa) : GC base t2 t3 t4 t5 t6 H =
 bnd (Qb .add 6 t6 (.int .i64 1)) fun v20 =>
 Mw base t2 t3 t4 t5 v20 H := by kernel_rfl
def Nr (base : Nat) (t2 t3 t4 t7 : V) (H : Qa) : Option (Out × Qa) :=
Qt (fun t H d again => YO base (cAt [1,1,1,1,1,1,0,1,0,0] ZG) (Ql Jd (cAt [1,1,1,1,1,1,0,1,0,0] ZG) again ((Qe 2 ((Qg (fun _ t => YO base (cAt [1,1,1,1,1,1,1] ZG) (YA base) (Qf Jd (cAt [1,1,1,1,1,1,1] ZG) t)) (YA base)))))) t H d) [(2,t2),(3,t3),(4,t4),(7,t7)] H []
def Gh (base : Nat) (t2 t3 t4 t7 : V) (H : Qa) : Option (Out × Qa) :=
YO base (cAt [1,1,1,1,1,1,0,1,0,0,1,1] ZG) ((Ql Jd (cAt [1,1,1,1,1,1,0,1,0,0] ZG) (Qt (fun t H d again => YO base (cAt [1,1,1,1,1,1,0,1,0,0] ZG) (Ql Jd (cAt [1,1,1,1,1,1,0,1,0,0] ZG) again ((Qe 2 ((Qg (fun _ t => YO base (cAt [1,1,1,1,1,1,1] ZG) (YA base) (Qf Jd (cAt [1,1,1,1,1,1,1] ZG) t)) (YA base)))))) t H d)) ((Qe 2 ((Qg (fun _ t => YO base (cAt [1,1,1,1,1,1,1] ZG) (YA base) (Qf Jd (cAt [1,1,1,1,1,1,1] ZG) t)) (YA base))))))) [(2,t2),(3,t3),(4,t4),(7,t7)] H []
theorem Qly (base : Nat) (t2 t3 t4 t7 : V) (H : Qa) : Gh base t2 t3 t4 t7 H =
 bnd (Qb .add 6 t7 (.int .i64 1)) fun v48 =>
 Nr base t2 t3 t4 v48 H := by kernel_rfl
theorem AS (base : Nat) (t2 t3 t4 t7 : V) (H : Qa) : Nr base t2 t3 t4 t7 H =
 bnd (QM t3) fun v31 =>
 bnd (Qb .lss 6 t7 v31) fun v32 =>
 cnd v32
 (bnd (Qx 6 t3 t7) fun v33 =>
 bnd (Qq v33 0) fun v34 =>
 bnd (Qc false 1 H v34) fun v35 =>
 bnd (Qb .neq 6 v35 (.int .i64 0)) fun v36 =>
 bnd (gua v36 true (QL t3) (some (.tup []))) fun v37 =>
 bnd (gua v36 true (QL t7) (some (.tup []))) fun v38 =>
 bnd (gua v36 true (Qx 6 v37 v38) (some (.tup []))) fun v39 =>
 bnd (gua v36 true (Qq v39 0) (some (.tup []))) fun v40 =>
 bnd (gua v36 true (Qc false 1 H v40) (some (.tup []))) fun v41 =>
 bnd (gua v36 true (Qb .neq 6 v41 (.int .i64 2)) (some (.tup []))) fun v42 =>
 bnd (QY v36 v42 (.bool false)) fun v43 =>
 cnd v43
 (bnd (Qx 6 t3 t7) fun v44 =>
 bnd (Qc true 6 H v44) fun v45 =>
 bcall (E E6 [t4,v45] H) (fun v46 h47 =>
 Gh base t2 t3 v46 t7 h47)
 (fun v46 h47 => pn false base v46 h47))
 (Gh base t2 t3 t4 t7 H))
 (bnd (QM t4) fun v49 =>
 bnd (Qb .eql 6 v49 (.int .i64 0)) fun v50 =>
 cnd v50
 (bnd (Zj [(.int .i64 0),(.int .u64 0),(.int .u64 0),(.int .u64 0),(.int .u64 0),.nils] [(0,1),(1,4),(5,1)] []) fun v51 =>
 beff (Qs base 6 H t2 v51) fun v52 h53 =>
 bnd (Qc true 6 h53 t2) fun v54 =>
 rt false base v54 h53)
 (bcall (E L2 [t4,(.int .i64 4)] H) (fun v55 h56 =>
 beff (Qs base 6 h56 t2 v55) fun v57 h58 =>
 bnd (Qc true 6 h58 t2) fun v59 =>
 rt false base v59 h58)
 (fun v55 h56 => pn false base v55 h56))) := (Za (cAt [1,1,1,1,1,1,0,1,0,0] ZG) ((Qe 2 ((Qg (fun _ t => YO base (cAt [1,1,1,1,1,1,1] ZG) (YA base) (Qf Jd (cAt [1,1,1,1,1,1,1] ZG) t)) (YA base))))) _ H []).trans (by kernel_rfl)
def A3 (base : Nat) (t2 t3 t4 : V) (H : Qa) : Option (Out × Qa) :=
YO base (cAt [1,1,1,1,1,1] ZG) (YA base) [(2,t2),(3,t3),(4,t4)] H []
theorem XE (base : Nat) (t2 t3 t4 : V) (H : Qa) : A3 base t2 t3 t4 H =
 Nr base t2 t3 t4 (.int .i64 0) H := by kernel_rfl
theorem Av (base : Nat) (t2 t3 t4 t5 t6 : V) (H : Qa) : Mw base t2 t3 t4 t5 t6 H =
 bnd (QM t3) fun v6 =>
 bnd (Qb .lss 6 t6 v6) fun v7 =>
 cnd v7
 (bnd (Qx 6 t3 t6) fun v8 =>
 bnd (Qq v8 0) fun v9 =>
 bnd (Qc false 1 H v9) fun v10 =>
 bnd (Qb .eql 6 v10 (.int .i64 2)) fun v11 =>
 cnd v11
 (bnd (Qc true 4 H t5) fun v12 =>
 bnd (Qx 6 t3 t6) fun v13 =>
 bnd (Qq v13 1) fun v14 =>
 bnd (Qc true 4 H v14) fun v15 =>
 bcall (E Ez [v12,v15] H) (fun v16 h17 =>
 beff (Qs base 4 h17 t5 v16) fun v18 h19 =>
 GC base t2 t3 t4 t5 t6 h19)
 (fun v16 h17 => pn false base v16 h17))
 (GC base t2 t3 t4 t5 t6 H))
 (bnd (Qc true 4 H t5) fun v21 =>
 bcall (E US [v21] H) (fun v22 h23 =>
 bnd (Qb .gtr 6 v22 (.int .i64 0)) fun v24 =>
 cnd v24
 (bnd (Qc true 4 h23 t5) fun v25 =>
 bcall (E Dw [v25] h23) (fun v26 h27 =>
 bnd (Zq 6 1 (.agg [(.int .i64 0),(.int .u64 0),(.int .u64 0),(.int .u64 0),(.int .u64 0),(.vs [])]) [(0,v26)]) fun v28 =>
 beff (Z1 base 6 64 true t4 v28 h27) fun v29 h30 =>
 A3 base t2 t3 v29 h30)
 (fun v26 h27 => pn false base v26 h27))
 (A3 base t2 t3 t4 h23))
 (fun v22 h23 => pn false base v22 h23)) := (Za (cAt [1,1,1,1,0,1,0,0] ZG) ((Qe 0 ((Qg (fun _ t => YO base (cAt [1,1,1,1,1] ZG) (YA base) (Qf Jd (cAt [1,1,1,1,1] ZG) t)) (YA base))))) _ H []).trans (by kernel_rfl)
def QaU (base : Nat) (t0 : V) (H : Qa) : Option (Out × Qa) := YO base ZG (YA base) [(0,t0)] H []
theorem QiN (base : Nat) (t0 : V) (H : Qa) : QaU base t0 H =
 beff (QD H (.agg [(.int .i64 0),(.int .u64 0),(.int .u64 0),(.int .u64 0),(.int .u64 0),.nils])) fun v0 h1 =>
 bcall (E Ge [t0,(.int .i64 4)] h1) (fun v2 h3 =>
 beff (QD h3 (.agg [(.int .u64 0),(.int .u64 0),(.int .u64 0),(.int .u64 0)])) fun v4 h5 =>
 Mw base v0 v2 .nils v4 (.int .i64 0) h5)
 (fun v2 h3 => pn false base v2 h3) := by kernel_rfl
theorem Qm9 (t0 : V) (H : Qa) : E V9 [t0] H = QaU H.length t0 H := (QR Tryd.func26 (by kernel_rfl) (by kernel_rfl) (by kernel_rfl)).trans (by kernel_rfl)
def Qjf : Code := QO Tryd.f27
def Qp0 : Ks := []
def QkT (base : Nat) : KC (Out × Qa) := QP Tryd.prog D false base 9 Tryd.f27.results.toList
def QmO (base : Nat) (c : Code) (k : KC (Out × Qa)) (t : Ts) (H : Qa) (d : Ds) : Option (Out × Qa) := xC Tryd.prog base true Qp0 E 9 c k t H d
def XT (base : Nat) (t0 t1 : V) (H : Qa) : Option (Out × Qa) := QmO base Qjf (QkT base) [(0,t0),(1,t1)] H []
theorem QpB (base : Nat) (t0 t1 : V) (H : Qa) : XT base t0 t1 H =
 bcall (E Ef [t0,t1] H) (fun v0 h1 =>
 bnd (Qb .geq 6 v0 (.int .i64 0)) fun v2 =>
 rt false base v2 h1)
 (fun v0 h1 => pn false base v0 h1) := by kernel_rfl
theorem QoX (t0 t1 : V) (H : Qa) : E Ul [t0,t1] H = XT H.length t0 t1 H := (QR Tryd.func27 (by kernel_rfl) (by kernel_rfl) (by kernel_rfl)).trans (by kernel_rfl)
def Qk5 : Code := QO Tryd.f28
def QoQ : Ks := []
def QiA (base : Nat) : KC (Out × Qa) := QP Tryd.prog D false base 6 Tryd.f28.results.toList
def Qns (base : Nat) (c : Code) (k : KC (Out × Qa)) (t : Ts) (H : Qa) (d : Ds) : Option (Out × Qa) := xC Tryd.prog base false QoQ E 6 c k t H d
def QeK (base : Nat) (t0 : V) (H : Qa) : Option (Out × Qa) := Qns base Qk5 (QiA base) [(0,t0)] H []
theorem Qpq (base : Nat) (t0 : V) (H : Qa) : QeK base t0 H =
 beff (QD H t0) fun v0 h1 =>
 bnd (Qc true 6 h1 v0) fun v2 =>
 bcall (E JH [v2] h1) (fun v3 h4 =>
 bnd (oUn .not v3) fun v5 =>
 rt false base v5 h4)
 (fun v3 h4 => pn false base v3 h4) := by kernel_rfl
theorem QkG (t0 : V) (H : Qa) : E N8 [t0] H = QeK H.length t0 H := (QR Tryd.func28 (by kernel_rfl) (by kernel_rfl) (by kernel_rfl)).trans (by kernel_rfl)
def Qku : Code := QO Tryd.f29
def Qk1 : Ks := []
def Qnc (base : Nat) : KC (Out × Qa) := QP Tryd.prog D false base 22 Tryd.f29.results.toList
def Qj1 (base : Nat) (c : Code) (k : KC (Out × Qa)) (t : Ts) (H : Qa) (d : Ds) : Option (Out × Qa) := xC Tryd.prog base false Qk1 E 22 c k t H d
def T0 (base : Nat) (t0 t1 : V) (H : Qa) : Option (Out × Qa) := Qj1 base Qku (Qnc base) [(0,t0),(1,t1)] H []
theorem QhM (base : Nat) (t0 t1 : V) (H : Qa) : T0 base t0 t1 H =
 beff (QD H t0) fun v0 h1 =>
 bnd (Qb .geq 6 t1 (.int .i64 0)) fun v2 =>
 bnd (gua v2 true (QL t1) (some (.tup []))) fun v3 =>
 bnd (gua v2 true (Qb .lss 6 v3 (.int .i64 256)) (some (.tup []))) fun v4 =>
 bnd (QY v2 v4 (.bool false)) fun v5 =>
 bnd (gua v5 true (QL t1) (some (.tup []))) fun v6 =>
 bnd (gua v5 true (Qb .quo 6 v6 (.int .i64 64)) (some (.tup []))) fun v7 =>
 bnd (gua v5 true (Wl 4 1 v0 v7) (some (.tup []))) fun v8 =>
 bnd (gua v5 true (Qc false 1 h1 v8) (some (.tup []))) fun v9 =>
 bnd (gua v5 true (QL t1) (some (.tup []))) fun v10 =>
 bnd (gua v5 true (Qb .rem 6 v10 (.int .i64 64)) (some (.tup []))) fun v11 =>
 bnd (gua v5 true (Qb .shl 6 (.int .u64 1) v11) (some (.tup []))) fun v12 =>
 bnd (gua v5 true (Qb .and 6 v9 v12) (some (.tup []))) fun v13 =>
 bnd (gua v5 true (Qb .neq 6 v13 (.int .u64 0)) (some (.tup []))) fun v14 =>
 bnd (QY v5 v14 (.bool false)) fun v15 =>
 rt false base v15 h1 := by kernel_rfl
theorem Qpe (t0 t1 : V) (H : Qa) : E DZ [t0,t1] H = T0 H.length t0 t1 H := (QR Tryd.func29 (by kernel_rfl) (by kernel_rfl) (by kernel_rfl)).trans (by kernel_rfl)
def K5 : Code := QO Tryd.f30
def F7 : Ks := [(3,[1,2,4,5,9,10,11]),(8,[4,5])]
def RA (base : Nat) : KC (Out × Qa) := QP Tryd.prog D false base 37 Tryd.f30.results.toList
def Mk (base : Nat) (c : Code) (k : KC (Out × Qa)) (t : Ts) (H : Qa) (d : Ds) : Option (Out × Qa) := xC Tryd.prog base false F7 E 37 c k t H d
def Pv (base : Nat) (t1 t2 t4 t5 t9 t10 t11 : V) (H : Qa) : Option (Out × Qa) :=
Qt (fun t H d again => Mk base (cAt [1,1,0,1,0,0] K5) (Ql F7 (cAt [1,1,0,1,0,0] K5) again ((Qe 0 ((Qg (fun _ t => Mk base (cAt [1,1,1] K5) (RA base) (Qf F7 (cAt [1,1,1] K5) t)) (RA base)))))) t H d) [(1,t1),(2,t2),(4,t4),(5,t5),(9,t9),(10,t10),(11,t11)] H []
def PF (base : Nat) (t4 t5 : V) (H : Qa) : Option (Out × Qa) :=
Mk base (cAt [1,1,1] K5) (RA base) [(4,t4),(5,t5)] H []
theorem Qob (base : Nat) (t4 t5 : V) (H : Qa) : PF base t4 t5 H =
 bcall (E Fl [t5] H) (fun v35 h36 =>
 beff (Qs base 6 h36 t4 v35) fun v37 h38 =>
 bnd (Qc true 6 h38 t4) fun v39 =>
 rt false base v39 h38)
 (fun v35 h36 => pn false base v35 h36) := by kernel_rfl
theorem Xm (base : Nat) (t1 t2 t4 t5 t9 t10 t11 : V) (H : Qa) : Pv base t1 t2 t4 t5 t9 t10 t11 H =
 bnd (Qb .lss 6 t11 t10) fun v7 =>
 cnd v7
 (bnd (Qx 6 t9 t11) fun v8 =>
 bnd (Qc true 6 H v8) fun v9 =>
 beff (QD H (.agg [(.int .i64 0),(.int .u64 0),(.int .u64 0),(.int .u64 0),(.int .u64 0),.nils])) fun v10 h11 =>
 beff (Qs base 6 h11 v10 v9) fun v12 h13 =>
 bnd (Qq t2 5) fun v14 =>
 bnd (Qc false 1 h13 v14) fun v15 =>
 bnd (Qb .add 6 t11 (.int .i64 1)) fun v16 =>
 bnd (JO 6 v15 (some v16) none none) fun v17 =>
 bcall (E Lw [v17] h13) (fun v18 h19 =>
 bnd (bnd (Qc true 6 h19 v10) fun v20 => sch (sam (Qc true 6 h13 v10) v20) (
 some v20)) fun v20 =>
 bcall (E Y5 [v20,t1] h19) (fun v21 h22 =>
 bnd (Zq 6 1 (.agg [(.int .i64 0),(.int .u64 0),(.int .u64 0),(.int .u64 0),(.int .u64 0),(.vs [])]) [(0,v21)]) fun v23 =>
 bcall (E Bt [v18,(.int .i64 0),v23] h22) (fun v24 h25 =>
 bcall (E PX [v24] h25) (fun v26 h27 =>
 bnd (Zq 6 1 (.agg [(.int .i64 0),(.int .u64 0),(.int .u64 0),(.int .u64 0),(.int .u64 0),(.vs [])]) [(0,v26)]) fun v28 =>
 beff (Z1 base 6 64 true t5 v28 h27) fun v29 h30 =>
 bnd (Qc true 6 h30 v10) fun v31 =>
 bcall (E JH [v31] h30) (fun v32 h33 =>
 bnd (oUn .not v32) fun v34 =>
 cnd v34
 (PF base t4 v29 h33)
 (bnd (Qb .add 6 t11 (.int .i64 1)) fun v40 =>
 Pv base t1 t2 t4 v29 t9 t10 v40 h33))
 (fun v32 h33 => pn false base v32 h33))
 (fun v26 h27 => pn false base v26 h27))
 (fun v24 h25 => pn false base v24 h25))
 (fun v21 h22 => pn false base v21 h22))
 (fun v18 h19 => sch (tlb (Qc true 6 h13 v10) fun v41 => tlb (QL t1) fun v42 => true) (pn false base v18 h19)))
 (PF base t4 t5 H) := (Za (cAt [1,1,0,1,0,0] K5) ((Qe 0 ((Qg (fun _ t => Mk base (cAt [1,1,1] K5) (RA base) (Qf F7 (cAt [1,1,1] K5) t)) (RA base))))) _ H []).trans (by kernel_rfl)
def QdM (base : Nat) (t0 t1 : V) (H : Qa) : Option (Out × Qa) := Mk base K5 (RA base) [(0,t0),(1,t1)] H []
theorem QpK (base : Nat) (t0 t1 : V) (H : Qa) : QdM base t0 t1 H =
 beff (QD H t0) fun v0 h1 =>
 beff (QD h1 (.agg [(.int .i64 0),(.int .u64 0),(.int .u64 0),(.int .u64 0),(.int .u64 0),.nils])) fun v2 h3 =>
 bnd (Qq v0 5) fun v4 =>
 bnd (Qc false 1 h3 v4) fun v5 =>
 bnd (QM v5) fun v6 =>
 Pv base t1 v0 v2 .nils v5 v6 (.int .i64 0) h3 := by kernel_rfl
theorem QnY (t0 t1 : V) (H : Qa) : E EC [t0,t1] H = QdM H.length t0 t1 H := (QR Tryd.func30 (by kernel_rfl) (by kernel_rfl) (by kernel_rfl)).trans (by kernel_rfl)
def VC : Code := QO Tryd.f31
def Gj : Ks := [(3,[1,4,5,13,14,15])]
def Mp (base : Nat) : KC (Out × Qa) := QP Tryd.prog D false base 29 Tryd.f31.results.toList
def PG (base : Nat) (c : Code) (k : KC (Out × Qa)) (t : Ts) (H : Qa) (d : Ds) : Option (Out × Qa) := xC Tryd.prog base false Gj E 29 c k t H d
def P8 (base : Nat) (t1 t4 t5 t13 t14 t15 : V) (H : Qa) : Option (Out × Qa) :=
Qt (fun t H d again => PG base (cAt [1,1,0,1,0,0] VC) (Ql Gj (cAt [1,1,0,1,0,0] VC) again ((Qe 0 ((Qg (fun _ t => PG base (cAt [1,1,1] VC) (Mp base) (Qf Gj (cAt [1,1,1] VC) t)) (Mp base)))))) t H d) [(1,t1),(4,t4),(5,t5),(13,t13),(14,t14),(15,t15)] H []
theorem QeZ (base : Nat) (t1 t4 t5 t13 t14 t15 : V) (H : Qa) : P8 base t1 t4 t5 t13 t14 t15 H =
 bnd (Qb .lss 6 t15 t14) fun v12 =>
 cnd v12
 (bnd (Qx 6 t13 t15) fun v13 =>
 bnd (Qc true 6 H v13) fun v14 =>
 beff (QD H (.agg [(.int .i64 0),(.int .u64 0),(.int .u64 0),(.int .u64 0),(.int .u64 0),.nils])) fun v15 h16 =>
 beff (Qs base 6 h16 v15 v14) fun v17 h18 =>
 bnd (Qc true 6 h18 v15) fun v19 =>
 bcall (E Y5 [v19,t1] h18) (fun v20 h21 =>
 bnd (Qx 6 t5 t15) fun v22 =>
 beff (Qs base 6 h21 v22 v20) fun v23 h24 =>
 bnd (Qb .add 6 t15 (.int .i64 1)) fun v25 =>
 P8 base t1 t4 t5 t13 t14 v25 h24)
 (fun v20 h21 => pn false base v20 h21))
 (bcall (E Fl [t5] H) (fun v26 h27 =>
 beff (Qs base 6 h27 t4 v26) fun v28 h29 =>
 bnd (Qc true 6 h29 t4) fun v30 =>
 rt false base v30 h29)
 (fun v26 h27 => pn false base v26 h27)) := (Za (cAt [1,1,0,1,0,0] VC) ((Qe 0 ((Qg (fun _ t => PG base (cAt [1,1,1] VC) (Mp base) (Qf Gj (cAt [1,1,1] VC) t)) (Mp base))))) _ H []).trans (by kernel_rfl)
def QdQ (base : Nat) (t0 t1 : V) (H : Qa) : Option (Out × Qa) := PG base VC (Mp base) [(0,t0),(1,t1)] H []
theorem Qil (base : Nat) (t0 t1 : V) (H : Qa) : QdQ base t0 t1 H =
 beff (QD H t0) fun v0 h1 =>
 beff (QD h1 (.agg [(.int .i64 0),(.int .u64 0),(.int .u64 0),(.int .u64 0),(.int .u64 0),.nils])) fun v2 h3 =>
 bnd (Qq v0 5) fun v4 =>
 bnd (Qc false 1 h3 v4) fun v5 =>
 bnd (QM v5) fun v6 =>
 beff (R5 6 true 64 [(.int .i64 0),(.int .u64 0),(.int .u64 0),(.int .u64 0),(.int .u64 0),.nils] v6 v6 h3) fun v7 h8 =>
 bnd (Qq v0 5) fun v9 =>
 bnd (Qc false 1 h8 v9) fun v10 =>
 bnd (QM v10) fun v11 =>
 P8 base t1 v2 v7 v10 v11 (.int .i64 0) h8 := by kernel_rfl
theorem Qp3 (t0 t1 : V) (H : Qa) : E EW [t0,t1] H = QdQ H.length t0 t1 H := (QR Tryd.func31 (by kernel_rfl) (by kernel_rfl) (by kernel_rfl)).trans (by kernel_rfl)
def QiD : Code := QO Tryd.f32
def QhH : Ks := []
def Qn0 (base : Nat) : KC (Out × Qa) := QP Tryd.prog D false base 13 Tryd.f32.results.toList
def Qms (base : Nat) (c : Code) (k : KC (Out × Qa)) (t : Ts) (H : Qa) (d : Ds) : Option (Out × Qa) := xC Tryd.prog base false QhH E 13 c k t H d
def QgF (base : Nat) (t0 : V) (H : Qa) : Option (Out × Qa) := Qms base QiD (Qn0 base) [(0,t0)] H []
theorem QlB (base : Nat) (t0 : V) (H : Qa) : QgF base t0 H =
 beff (QD H (.agg [(.int .i64 0),(.int .u64 0),(.int .u64 0),(.int .u64 0),(.int .u64 0),.nils])) fun v0 h1 =>
 bcall (E LR [t0,(.int .i64 3)] h1) (fun v2 h3 =>
 bcall (E BI [(.int .i64 0)] h3) (fun v4 h5 =>
 bcall (E Ul [v2,v4] h5) (fun v6 h7 =>
 cnd v6
 (bnd (Zj [(.int .i64 0),(.int .u64 0),(.int .u64 0),(.int .u64 0),(.int .u64 0),.nils] [(0,1),(1,4),(5,1)] [(0,(.int .i64 0))]) fun v8 =>
 beff (Qs base 6 h7 v0 v8) fun v9 h10 =>
 bnd (Qc true 6 h10 v0) fun v11 =>
 rt false base v11 h10)
 (bcall (E BI [(.int .i64 1)] h7) (fun v12 h13 =>
 bcall (E UU [v2,v12] h13) (fun v14 h15 =>
 bcall (E Fp [v14,(.int .i64 3),(.int .i64 1)] h15) (fun v16 h17 =>
 beff (Qs base 6 h17 v0 v16) fun v18 h19 =>
 bnd (Qc true 6 h19 v0) fun v20 =>
 rt false base v20 h19)
 (fun v16 h17 => pn false base v16 h17))
 (fun v14 h15 => pn false base v14 h15))
 (fun v12 h13 => pn false base v12 h13)))
 (fun v6 h7 => pn false base v6 h7))
 (fun v4 h5 => pn false base v4 h5))
 (fun v2 h3 => pn false base v2 h3) := by kernel_rfl
theorem QqS (t0 : V) (H : Qa) : E PX [t0] H = QgF H.length t0 H := (QR Tryd.func32 (by kernel_rfl) (by kernel_rfl) (by kernel_rfl)).trans (by kernel_rfl)
def Qn1 : Code := QO Tryd.f33
def Qo3 : Ks := []
def Qog (base : Nat) : KC (Out × Qa) := QP Tryd.prog D false base 22 Tryd.f33.results.toList
def QpF (base : Nat) (c : Code) (k : KC (Out × Qa)) (t : Ts) (H : Qa) (d : Ds) : Option (Out × Qa) := xC Tryd.prog base false Qo3 E 22 c k t H d
def QaG (base : Nat) (t0 t1 : V) (H : Qa) : Option (Out × Qa) := QpF base Qn1 (Qog base) [(0,t0),(1,t1)] H []
theorem Ey (base : Nat) (t0 t1 : V) (H : Qa) : QaG base t0 t1 H =
 beff (QD H t0) fun v0 h1 =>
 bnd (Qb .geq 6 t1 (.int .i64 0)) fun v2 =>
 bnd (gua v2 true (QL t1) (some (.tup []))) fun v3 =>
 bnd (gua v2 true (Qb .lss 6 v3 (.int .i64 256)) (some (.tup []))) fun v4 =>
 bnd (QY v2 v4 (.bool false)) fun v5 =>
 bnd (gua v5 true (QL t1) (some (.tup []))) fun v6 =>
 bnd (gua v5 true (Qb .quo 6 v6 (.int .i64 64)) (some (.tup []))) fun v7 =>
 bnd (gua v5 true (Wl 4 1 v0 v7) (some (.tup []))) fun v8 =>
 bnd (gua v5 true (Qc false 1 h1 v8) (some (.tup []))) fun v9 =>
 bnd (gua v5 true (QL t1) (some (.tup []))) fun v10 =>
 bnd (gua v5 true (Qb .rem 6 v10 (.int .i64 64)) (some (.tup []))) fun v11 =>
 bnd (gua v5 true (Qb .shr 6 v9 v11) (some (.tup []))) fun v12 =>
 bnd (gua v5 true (Qb .and 6 v12 (.int .u64 1)) (some (.tup []))) fun v13 =>
 bnd (gua v5 true (Qb .eql 6 v13 (.int .u64 1)) (some (.tup []))) fun v14 =>
 bnd (QY v5 v14 (.bool false)) fun v15 =>
 rt false base v15 h1 := by kernel_rfl
theorem Xe (t0 t1 : V) (H : Qa) : E Vy [t0,t1] H = QaG H.length t0 t1 H := (QR Tryd.func33 (by kernel_rfl) (by kernel_rfl) (by kernel_rfl)).trans (by kernel_rfl)
def Xx : Code := QO Tryd.f34
def QpI : Ks := [(4,[0,1,4,5])]
def QcM (base : Nat) : KC (Out × Qa) := QP Tryd.prog D false base 60 Tryd.f34.results.toList
def QbJ (base : Nat) (c : Code) (k : KC (Out × Qa)) (t : Ts) (H : Qa) (d : Ds) : Option (Out × Qa) := xC Tryd.prog base false QpI E 60 c k t H d
def LL (base : Nat) (t0 t1 t4 t5 : V) (H : Qa) : Option (Out × Qa) :=
QbJ base (cAt [1,1,1] Xx) (QcM base) [(0,t0),(1,t1),(4,t4),(5,t5)] H []
theorem RG (base : Nat) (t0 t1 t4 t5 : V) (H : Qa) : LL base t0 t1 t4 t5 H =
 bnd (Qb .lss 6 t5 (.int .i64 4)) fun v6 =>
 cnd v6
 (bcall (E VB [t0,(.int .i64 3)] H) (fun v7 h8 =>
 bnd (Qb .add 6 (.int .i64 97) v7) fun v9 =>
 bcall (E VB [t0,(.int .i64 4)] h8) (fun v10 h11 =>
 bnd (Qb .quo 6 v10 (.int .i64 3)) fun v12 =>
 bnd (Qb .add 6 v9 v12) fun v13 =>
 bcall (E EG [v9,v13] h11) (fun v14 h15 =>
 beff (Qs base 6 h15 t4 v14) fun v16 h17 =>
 bnd (Qc true 6 h17 t4) fun v18 =>
 rt false base v18 h17)
 (fun v14 h15 => pn false base v14 h15))
 (fun v10 h11 => pn false base v10 h11))
 (fun v7 h8 => pn false base v7 h8))
 (bnd (Qb .eql 6 t5 (.int .i64 4)) fun v19 =>
 cnd v19
 (bcall (E VB [t0,(.int .i64 4)] H) (fun v20 h21 =>
 bnd (Qb .quo 6 v20 (.int .i64 3)) fun v22 =>
 bnd (Zj [(.int .i64 0),(.int .u64 0),(.int .u64 0),(.int .u64 0),(.int .u64 0),.nils] [(0,1),(1,4),(5,1)] [(0,v22)]) fun v23 =>
 beff (Qs base 6 h21 t4 v23) fun v24 h25 =>
 bnd (Qc true 6 h25 t4) fun v26 =>
 rt false base v26 h25)
 (fun v20 h21 => pn false base v20 h21))
 (bnd (Qb .lss 6 t5 (.int .i64 7)) fun v27 =>
 cnd v27
 (bnd (Qb .sub 6 t1 (.int .i64 1)) fun v28 =>
 bcall (E NU [t0,v28] H) (fun v29 h30 =>
 bcall (E WI [v29] h30) (fun v31 h32 =>
 beff (Qs base 6 h32 t4 v31) fun v33 h34 =>
 bnd (Qc true 6 h34 t4) fun v35 =>
 rt false base v35 h34)
 (fun v31 h32 => pn false base v31 h32))
 (fun v29 h30 => pn false base v29 h30))
 (bnd (Qb .lss 6 t5 (.int .i64 9)) fun v36 =>
 cnd v36
 (bcall (E VB [t0,(.int .i64 3)] H) (fun v37 h38 =>
 bnd (Qb .add 6 (.int .i64 1) v37) fun v39 =>
 bnd (Qb .sub 6 t1 (.int .i64 1)) fun v40 =>
 bcall (E FJ [t0,v39,v40] h38) (fun v41 h42 =>
 bcall (E Vi [v41] h42) (fun v43 h44 =>
 beff (Qs base 6 h44 t4 v43) fun v45 h46 =>
 bnd (Qc true 6 h46 t4) fun v47 =>
 rt false base v47 h46)
 (fun v43 h44 => pn false base v43 h44))
 (fun v41 h42 => pn false base v41 h42))
 (fun v37 h38 => pn false base v37 h38))
 (bcall (E VB [t0,(.int .i64 3)] H) (fun v48 h49 =>
 bnd (Qb .add 6 (.int .i64 1) v48) fun v50 =>
 bnd (Qb .sub 6 t1 (.int .i64 1)) fun v51 =>
 bcall (E FJ [t0,v50,v51] h49) (fun v52 h53 =>
 bcall (E V9 [v52] h53) (fun v54 h55 =>
 beff (Qs base 6 h55 t4 v54) fun v56 h57 =>
 bnd (Qc true 6 h57 t4) fun v58 =>
 rt false base v58 h57)
 (fun v54 h55 => pn false base v54 h55))
 (fun v52 h53 => pn false base v52 h53))
 (fun v48 h49 => pn false base v48 h49))))) := by kernel_rfl
def QdB (base : Nat) (t0 t1 : V) (H : Qa) : Option (Out × Qa) := QbJ base Xx (QcM base) [(0,t0),(1,t1)] H []
theorem Lq (base : Nat) (t0 t1 : V) (H : Qa) : QdB base t0 t1 H =
 beff (QD H (.agg [(.int .i64 0),(.int .u64 0),(.int .u64 0),(.int .u64 0),(.int .u64 0),.nils])) fun v0 h1 =>
 bcall (E VB [t0,(.int .i64 11)] h1) (fun v2 h3 =>
 bnd (Qb .lss 6 t1 (.int .i64 1)) fun v4 =>
 cnd v4
 (bnd (Qb .rem 6 v2 (.int .i64 5)) fun v5 =>
 LL base t0 t1 v0 v5 h3)
 (LL base t0 t1 v0 v2 h3))
 (fun v2 h3 => pn false base v2 h3) := by kernel_rfl
theorem Na (t0 t1 : V) (H : Qa) : E NU [t0,t1] H = QdB H.length t0 t1 H := (QR Tryd.func34 (by kernel_rfl) (by kernel_rfl) (by kernel_rfl)).trans (by kernel_rfl)
def VN : Code := QO Tryd.f35
def FL : Ks := [(3,[0,1,5,6])]
def Mi (base : Nat) : KC (Out × Qa) := QP Tryd.prog D false base 31 Tryd.f35.results.toList
def FX (base : Nat) (c : Code) (k : KC (Out × Qa)) (t : Ts) (H : Qa) (d : Ds) : Option (Out × Qa) := xC Tryd.prog base false FL E 31 c k t H d
def Lp (base : Nat) (t0 t1 t5 t6 : V) (H : Qa) : Option (Out × Qa) :=
Qt (fun t H d again => FX base (cAt [1,1,0,1,0,0] VN) (Ql FL (cAt [1,1,0,1,0,0] VN) again ((Qe 0 ((Qg (fun _ t => FX base (cAt [1,1,1] VN) (Mi base) (Qf FL (cAt [1,1,1] VN) t)) (Mi base)))))) t H d) [(0,t0),(1,t1),(5,t5),(6,t6)] H []
theorem Aa (base : Nat) (t0 t1 t5 t6 : V) (H : Qa) : Lp base t0 t1 t5 t6 H =
 bnd (QM t0) fun v0 =>
 bnd (Qb .lss 6 t6 v0) fun v1 =>
 bnd (gua v1 true (QL t6) (some (.tup []))) fun v2 =>
 bnd (gua v1 true (Qb .lss 6 v2 (.int .i64 14)) (some (.tup []))) fun v3 =>
 bnd (QY v1 v3 (.bool false)) fun v4 =>
 cnd v4
 (bnd (Qx 1 t0 t6) fun v5 =>
 bnd (Qc false 1 H v5) fun v6 =>
 bnd (Yc .i64 v6) fun v7 =>
 bnd (QM t1) fun v8 =>
 bnd (Qb .rem 6 v7 v8) fun v9 =>
 bnd (Qx 1 t1 v9) fun v10 =>
 bnd (Qc false 1 H v10) fun v11 =>
 bnd (Qb .add 6 t5 v11) fun v12 =>
 bnd (Qb .add 6 t6 (.int .i64 1)) fun v13 =>
 Lp base t0 t1 v12 v13 H)
 (rt false base t5 H) := (Za (cAt [1,1,0,1,0,0] VN) ((Qe 0 ((Qg (fun _ t => FX base (cAt [1,1,1] VN) (Mi base) (Qf FL (cAt [1,1,1] VN) t)) (Mi base))))) _ H []).trans (by kernel_rfl)
def QaL (base : Nat) (t0 t1 : V) (H : Qa) : Option (Out × Qa) := FX base VN (Mi base) [(0,t0),(1,t1)] H []
theorem QjO (base : Nat) (t0 t1 : V) (H : Qa) : QaL base t0 t1 H =
 Lp base t0 t1 (.str []) (.int .i64 0) H := by kernel_rfl
theorem Qmg (t0 t1 : V) (H : Qa) : E DY [t0,t1] H = QaL H.length t0 t1 H := (QR Tryd.func35 (by kernel_rfl) (by kernel_rfl) (by kernel_rfl)).trans (by kernel_rfl)
def YU : Code := QO Tryd.f37
def V3 : Ks := [(3,[0,1,5,6]),(4,[0,1,5,6])]
def Wp (base : Nat) : KC (Out × Qa) := QP Tryd.prog D false base 35 Tryd.f37.results.toList
def VP (base : Nat) (c : Code) (k : KC (Out × Qa)) (t : Ts) (H : Qa) (d : Ds) : Option (Out × Qa) := xC Tryd.prog base false V3 E 35 c k t H d
def NC (base : Nat) (t0 t1 t5 t6 : V) (H : Qa) : Option (Out × Qa) :=
Qt (fun t H d again => VP base (cAt [1,1,0,1,0,0] YU) (Ql V3 (cAt [1,1,0,1,0,0] YU) again ((Qe 0 ((Qg (fun _ t => VP base (cAt [1,1,1] YU) (Wp base) (Qf V3 (cAt [1,1,1] YU) t)) (Wp base)))))) t H d) [(0,t0),(1,t1),(5,t5),(6,t6)] H []
def FZ (base : Nat) (t0 t1 t5 t6 : V) (H : Qa) : Option (Out × Qa) :=
VP base (cAt [1,1,0,1,0,0,1,1] YU) ((Ql V3 (cAt [1,1,0,1,0,0] YU) (Qt (fun t H d again => VP base (cAt [1,1,0,1,0,0] YU) (Ql V3 (cAt [1,1,0,1,0,0] YU) again ((Qe 0 ((Qg (fun _ t => VP base (cAt [1,1,1] YU) (Wp base) (Qf V3 (cAt [1,1,1] YU) t)) (Wp base)))))) t H d)) ((Qe 0 ((Qg (fun _ t => VP base (cAt [1,1,1] YU) (Wp base) (Qf V3 (cAt [1,1,1] YU) t)) (Wp base))))))) [(0,t0),(1,t1),(5,t5),(6,t6)] H []
theorem QpJ (base : Nat) (t0 t1 t5 t6 : V) (H : Qa) : FZ base t0 t1 t5 t6 H =
 bnd (Qb .add 6 t6 (.int .i64 1)) fun v11 =>
 NC base t0 t1 t5 v11 H := by kernel_rfl
theorem Qj9 (base : Nat) (t0 t1 t5 t6 : V) (H : Qa) : NC base t0 t1 t5 t6 H =
 bnd (QM t0) fun v0 =>
 bnd (Qb .lss 6 t6 v0) fun v1 =>
 cnd v1
 (bnd (Qx 6 t0 t6) fun v2 =>
 bnd (Qq v2 0) fun v3 =>
 bnd (Qc false 1 H v3) fun v4 =>
 bnd (Qb .eql 6 v4 t1) fun v5 =>
 cnd v5
 (bnd (Qx 6 t0 t6) fun v6 =>
 bnd (Qq v6 5) fun v7 =>
 bnd (Qc false 1 H v7) fun v8 =>
 beff (Z1 base 6 64 true t5 v8 H) fun v9 h10 =>
 FZ base t0 t1 v9 t6 h10)
 (bnd (Qx 6 t0 t6) fun v12 =>
 bnd (Qc true 6 H v12) fun v13 =>
 bnd (Zq 6 1 (.agg [(.int .i64 0),(.int .u64 0),(.int .u64 0),(.int .u64 0),(.int .u64 0),(.vs [])]) [(0,v13)]) fun v14 =>
 beff (Z1 base 6 64 true t5 v14 H) fun v15 h16 =>
 FZ base t0 t1 v15 t6 h16))
 (rt false base t5 H) := (Za (cAt [1,1,0,1,0,0] YU) ((Qe 0 ((Qg (fun _ t => VP base (cAt [1,1,1] YU) (Wp base) (Qf V3 (cAt [1,1,1] YU) t)) (Wp base))))) _ H []).trans (by kernel_rfl)
def QeI (base : Nat) (t0 t1 : V) (H : Qa) : Option (Out × Qa) := VP base YU (Wp base) [(0,t0),(1,t1)] H []
theorem Qqd (base : Nat) (t0 t1 : V) (H : Qa) : QeI base t0 t1 H =
 NC base t0 t1 .nils (.int .i64 0) H := by kernel_rfl
theorem QqF (t0 t1 : V) (H : Qa) : E Ge [t0,t1] H = QeI H.length t0 t1 H := (QR Tryd.func37 (by kernel_rfl) (by kernel_rfl) (by kernel_rfl)).trans (by kernel_rfl)
def Ql1 : Code := QO Tryd.f38
def QoO : Ks := []
def Qif (base : Nat) : KC (Out × Qa) := QP Tryd.prog D false base 14 Tryd.f38.results.toList
def Qli (base : Nat) (c : Code) (k : KC (Out × Qa)) (t : Ts) (H : Qa) (d : Ds) : Option (Out × Qa) := xC Tryd.prog base false QoO E 14 c k t H d
def Tx (base : Nat) (t0 t1 : V) (H : Qa) : Option (Out × Qa) := Qli base Ql1 (Qif base) [(0,t0),(1,t1)] H []
theorem QnL (base : Nat) (t0 t1 : V) (H : Qa) : Tx base t0 t1 H =
 beff (QD H (.agg [(.int .i64 0),(.int .u64 0),(.int .u64 0),(.int .u64 0),(.int .u64 0),.nils])) fun v0 h1 =>
 bnd (QM t0) fun v2 =>
 bnd (Qb .eql 6 v2 (.int .i64 1)) fun v3 =>
 cnd v3
 (bnd (Qx 6 t0 (.int .i64 0)) fun v4 =>
 bnd (Qc true 6 h1 v4) fun v5 =>
 beff (Qs base 6 h1 v0 v5) fun v6 h7 =>
 bnd (Qc true 6 h7 v0) fun v8 =>
 rt false base v8 h7)
 (bnd (Zj [(.int .i64 0),(.int .u64 0),(.int .u64 0),(.int .u64 0),(.int .u64 0),.nils] [(0,1),(1,4),(5,1)] [(0,t1),(2,t0)]) fun v9 =>
 beff (Qs base 6 h1 v0 v9) fun v10 h11 =>
 bnd (Qc true 6 h11 v0) fun v12 =>
 rt false base v12 h11) := by kernel_rfl
theorem QoL (t0 t1 : V) (H : Qa) : E L2 [t0,t1] H = Tx H.length t0 t1 H := (QR Tryd.func38 (by kernel_rfl) (by kernel_rfl) (by kernel_rfl)).trans (by kernel_rfl)
def Qqk : Code := QO Tryd.f39
def Qmf : Ks := []
def Qlj (base : Nat) : KC (Out × Qa) := QP Tryd.prog D false base 17 Tryd.f39.results.toList
def Ql6 (base : Nat) (c : Code) (k : KC (Out × Qa)) (t : Ts) (H : Qa) (d : Ds) : Option (Out × Qa) := xC Tryd.prog base false Qmf E 17 c k t H d
def TH (base : Nat) (t0 t1 : V) (H : Qa) : Option (Out × Qa) := Ql6 base Qqk (Qlj base) [(0,t0),(1,t1)] H []
theorem Qq3 (base : Nat) (t0 t1 : V) (H : Qa) : TH base t0 t1 H =
 beff (QD H t0) fun v0 h1 =>
 beff (QD h1 (.agg [(.int .u64 0),(.int .u64 0),(.int .u64 0),(.int .u64 0)])) fun v2 h3 =>
 bnd (Qb .quo 6 t1 (.int .i64 64)) fun v4 =>
 bnd (Qb .quo 6 t1 (.int .i64 64)) fun v5 =>
 bnd (Wl 4 1 v0 v5) fun v6 =>
 bnd (Qc false 1 h3 v6) fun v7 =>
 bnd (Qb .rem 6 t1 (.int .i64 64)) fun v8 =>
 bnd (Qb .shl 6 (.int .u64 1) v8) fun v9 =>
 bnd (Qb .or 6 v7 v9) fun v10 =>
 bnd (Wl 4 1 v0 v4) fun v11 =>
 beff (Qs base 1 h3 v11 v10) fun v12 h13 =>
 bnd (Qc true 4 h13 v0) fun v14 =>
 beff (Qs base 4 h13 v2 v14) fun v15 h16 =>
 bnd (Qc true 4 h16 v2) fun v17 =>
 rt false base v17 h16 := by kernel_rfl
theorem QjF (t0 t1 : V) (H : Qa) : E Eg [t0,t1] H = TH H.length t0 t1 H := (QR Tryd.func39 (by kernel_rfl) (by kernel_rfl) (by kernel_rfl)).trans (by kernel_rfl)
def YT : Code := QO Tryd.f40
def W8 : Ks := [(3,[1,3,4]),(4,[1,3,4])]
def WE (base : Nat) : KC (Out × Qa) := QP Tryd.prog D false base 15 Tryd.f40.results.toList
def Vz (base : Nat) (c : Code) (k : KC (Out × Qa)) (t : Ts) (H : Qa) (d : Ds) : Option (Out × Qa) := xC Tryd.prog base false W8 E 15 c k t H d
def Np (base : Nat) (t1 t3 t4 : V) (H : Qa) : Option (Out × Qa) :=
Qt (fun t H d again => Vz base (cAt [1,1,0,1,0,0] YT) (Ql W8 (cAt [1,1,0,1,0,0] YT) again ((Qe 0 ((Qg (fun _ t => Vz base (cAt [1,1,1] YT) (WE base) (Qf W8 (cAt [1,1,1] YT) t)) (WE base)))))) t H d) [(1,t1),(3,t3),(4,t4)] H []
def Pk (base : Nat) (t1 t3 t4 : V) (H : Qa) : Option (Out × Qa) :=
Vz base (cAt [1,1,0,1,0,0,1,1] YT) ((Ql W8 (cAt [1,1,0,1,0,0] YT) (Qt (fun t H d again => Vz base (cAt [1,1,0,1,0,0] YT) (Ql W8 (cAt [1,1,0,1,0,0] YT) again ((Qe 0 ((Qg (fun _ t => Vz base (cAt [1,1,1] YT) (WE base) (Qf W8 (cAt [1,1,1] YT) t)) (WE base)))))) t H d)) ((Qe 0 ((Qg (fun _ t => Vz base (cAt [1,1,1] YT) (WE base) (Qf W8 (cAt [1,1,1] YT) t)) (WE base))))))) [(1,t1),(3,t3),(4,t4)] H []
theorem Qp2 (base : Nat) (t1 t3 t4 : V) (H : Qa) : Pk base t1 t3 t4 H =
 bnd (Qb .add 6 t4 (.int .i64 1)) fun v7 =>
 Np base t1 t3 v7 H := by kernel_rfl
theorem Qma (base : Nat) (t1 t3 t4 : V) (H : Qa) : Np base t1 t3 t4 H =
 bnd (Qb .lss 6 t4 (.int .i64 256)) fun v2 =>
 cnd v2
 (bnd (Qc true 4 H t1) fun v3 =>
 bcall (E Vy [v3,t4] H) (fun v4 h5 =>
 cnd v4
 (bnd (Qb .add 6 t3 (.int .i64 1)) fun v6 =>
 Pk base t1 v6 t4 h5)
 (Pk base t1 t3 t4 h5))
 (fun v4 h5 => pn false base v4 h5))
 (rt false base t3 H) := (Za (cAt [1,1,0,1,0,0] YT) ((Qe 0 ((Qg (fun _ t => Vz base (cAt [1,1,1] YT) (WE base) (Qf W8 (cAt [1,1,1] YT) t)) (WE base))))) _ H []).trans (by kernel_rfl)
def QgO (base : Nat) (t0 : V) (H : Qa) : Option (Out × Qa) := Vz base YT (WE base) [(0,t0)] H []
theorem QhY (base : Nat) (t0 : V) (H : Qa) : QgO base t0 H =
 beff (QD H t0) fun v0 h1 =>
 Np base v0 (.int .i64 0) (.int .i64 0) h1 := by kernel_rfl
theorem Qjq (t0 : V) (H : Qa) : E US [t0] H = QgO H.length t0 H := (QR Tryd.func40 (by kernel_rfl) (by kernel_rfl) (by kernel_rfl)).trans (by kernel_rfl)
def Qol : Code := QO Tryd.f41
def Qkk : Ks := []
def QqA (base : Nat) : KC (Out × Qa) := QP Tryd.prog D false base 8 Tryd.f41.results.toList
def QnC (base : Nat) (c : Code) (k : KC (Out × Qa)) (t : Ts) (H : Qa) (d : Ds) : Option (Out × Qa) := xC Tryd.prog base false Qkk E 8 c k t H d
def TB (base : Nat) (t0 t1 : V) (H : Qa) : Option (Out × Qa) := QnC base Qol (QqA base) [(0,t0),(1,t1)] H []
theorem Qok (base : Nat) (t0 t1 : V) (H : Qa) : TB base t0 t1 H =
 beff (QD H t0) fun v0 h1 =>
 beff (QD h1 t1) fun v2 h3 =>
 beff (QD h3 (.agg [(.int .u64 0),(.int .u64 0),(.int .u64 0),(.int .u64 0)])) fun v4 h5 =>
 bnd (Qc true 4 h5 v0) fun v6 =>
 bnd (Qc true 4 h5 v2) fun v7 =>
 bcall (E Cv [v6,v7,(.bool false),(.bool true),(.bool true),(.bool true)] h5) (fun v8 h9 =>
 beff (Qs base 4 h9 v4 v8) fun v10 h11 =>
 bnd (Qc true 4 h11 v4) fun v12 =>
 rt false base v12 h11)
 (fun v8 h9 => pn false base v8 h9) := by kernel_rfl
theorem QhZ (t0 t1 : V) (H : Qa) : E Ez [t0,t1] H = TB H.length t0 t1 H := (QR Tryd.func41 (by kernel_rfl) (by kernel_rfl) (by kernel_rfl)).trans (by kernel_rfl)
def Qny : Code := QO Tryd.f42
def Qmq : Ks := []
def Qjv (base : Nat) : KC (Out × Qa) := QP Tryd.prog D false base 9 Tryd.f42.results.toList
def Qpz (base : Nat) (c : Code) (k : KC (Out × Qa)) (t : Ts) (H : Qa) (d : Ds) : Option (Out × Qa) := xC Tryd.prog base false Qmq E 9 c k t H d
def QgL (base : Nat) (t0 : V) (H : Qa) : Option (Out × Qa) := Qpz base Qny (Qjv base) [(0,t0)] H []
theorem Qmi (base : Nat) (t0 : V) (H : Qa) : QgL base t0 H =
 beff (QD H t0) fun v0 h1 =>
 beff (QD h1 (.agg [(.int .i64 0),(.int .u64 0),(.int .u64 0),(.int .u64 0),(.int .u64 0),.nils])) fun v2 h3 =>
 bnd (Qc true 4 h3 v0) fun v4 =>
 bcall (E US [v4] h3) (fun v5 h6 =>
 bnd (Qb .eql 6 v5 (.int .i64 0)) fun v7 =>
 cnd v7
 (bnd (Zj [(.int .i64 0),(.int .u64 0),(.int .u64 0),(.int .u64 0),(.int .u64 0),.nils] [(0,1),(1,4),(5,1)] []) fun v8 =>
 beff (Qs base 6 h6 v2 v8) fun v9 h10 =>
 bnd (Qc true 6 h10 v2) fun v11 =>
 rt false base v11 h10)
 (bnd (Qc true 4 h6 v0) fun v12 =>
 bnd (Zj [(.int .i64 0),(.int .u64 0),(.int .u64 0),(.int .u64 0),(.int .u64 0),.nils] [(0,1),(1,4),(5,1)] [(0,(.int .i64 2)),(1,v12)]) fun v13 =>
 beff (Qs base 6 h6 v2 v13) fun v14 h15 =>
 bnd (Qc true 6 h15 v2) fun v16 =>
 rt false base v16 h15))
 (fun v5 h6 => pn false base v5 h6) := by kernel_rfl
theorem QnH (t0 : V) (H : Qa) : E Dw [t0] H = QgL H.length t0 H := (QR Tryd.func42 (by kernel_rfl) (by kernel_rfl) (by kernel_rfl)).trans (by kernel_rfl)
end
end Go.Proofs.YtdnmpaielmfiiaaDoor
end
