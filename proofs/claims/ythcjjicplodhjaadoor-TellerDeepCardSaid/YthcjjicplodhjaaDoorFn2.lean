/- Fn2: a part of the proof that each law of this seat answers true at every input. No condition. -/
import Derived.Test.YthcjjicplodhjaaDoorHint
import Derived.KernelRfl
set_option linter.unusedVariables false
set_option linter.unusedSimpArgs false
set_option maxRecDepth 20000
section
/- Printed: what functions do. -/
namespace Go.Proofs.YthcjjicplodhjaaDoor
open Go Go.Ev
set_option linter.unusedVariables false
noncomputable section

def ref04_Tell_c : Code := bodyOf Tryd.f21
def ref04_Tell_ks : Ks := [(3, [0, 4, 5]), (10, [0, 4, 5, 6]), (4, [0, 4, 5])]
def ref04_Tell_e (base : Nat) : KC (Out × Heap) := xEnd Tryd.prog D false base 52 Tryd.f21.results.toList
def ref04_Tell_C (base : Nat) (c : Code) (k : KC (Out × Heap)) (t : Ts) (H : Heap) (d : Ds) : Option (Out × Heap) := xC Tryd.prog base false ref04_Tell_ks E 52 c k t H d
def ref04_Tell_l1 (base : Nat) (t0 t4 t5 : V) (H : Heap) : Option (Out × Heap) :=
iterL (fun t H d again => ref04_Tell_C base (cAt [1, 1, 0, 1, 0, 0] ref04_Tell_c) (loopK ref04_Tell_ks (cAt [1, 1, 0, 1, 0, 0] ref04_Tell_c) again ((blockK 0 ((seqK (fun _ t => ref04_Tell_C base (cAt [1, 1, 1] ref04_Tell_c) (ref04_Tell_e base) (trimA ref04_Tell_ks (cAt [1, 1, 1] ref04_Tell_c) t)) (ref04_Tell_e base)))))) t H d) [(0, t0), (4, t4), (5, t5)] H []
def ref04_Tell_j3 (base : Nat) (t0 t4 t5 : V) (H : Heap) : Option (Out × Heap) :=
ref04_Tell_C base (cAt [1, 1, 0, 1, 0, 0, 1, 1] ref04_Tell_c) ((loopK ref04_Tell_ks (cAt [1, 1, 0, 1, 0, 0] ref04_Tell_c) (iterL (fun t H d again => ref04_Tell_C base (cAt [1, 1, 0, 1, 0, 0] ref04_Tell_c) (loopK ref04_Tell_ks (cAt [1, 1, 0, 1, 0, 0] ref04_Tell_c) again ((blockK 0 ((seqK (fun _ t => ref04_Tell_C base (cAt [1, 1, 1] ref04_Tell_c) (ref04_Tell_e base) (trimA ref04_Tell_ks (cAt [1, 1, 1] ref04_Tell_c) t)) (ref04_Tell_e base)))))) t H d)) ((blockK 0 ((seqK (fun _ t => ref04_Tell_C base (cAt [1, 1, 1] ref04_Tell_c) (ref04_Tell_e base) (trimA ref04_Tell_ks (cAt [1, 1, 1] ref04_Tell_c) t)) (ref04_Tell_e base))))))) [(0, t0), (4, t4), (5, t5)] H []
theorem ref04_Tell_j3_eq (base : Nat) (t0 t4 t5 : V) (H : Heap) : ref04_Tell_j3 base t0 t4 t5 H =
 bnd (oBin .add 6 t5 (.int .i64 1)) fun v32 =>
 ref04_Tell_l1 base t0 t4 v32 H := by kernel_rfl
def ref04_Tell_j2 (base : Nat) (t0 t4 t5 t6 : V) (H : Heap) : Option (Out × Heap) :=
ref04_Tell_C base (cAt [1, 1, 0, 1, 0, 0, 1, 0, 0, 1, 1, 1] ref04_Tell_c) ((blockK 1 ((seqK (fun _ t => ref04_Tell_C base (cAt [1, 1, 0, 1, 0, 0, 1, 1] ref04_Tell_c) ((loopK ref04_Tell_ks (cAt [1, 1, 0, 1, 0, 0] ref04_Tell_c) (iterL (fun t H d again => ref04_Tell_C base (cAt [1, 1, 0, 1, 0, 0] ref04_Tell_c) (loopK ref04_Tell_ks (cAt [1, 1, 0, 1, 0, 0] ref04_Tell_c) again ((blockK 0 ((seqK (fun _ t => ref04_Tell_C base (cAt [1, 1, 1] ref04_Tell_c) (ref04_Tell_e base) (trimA ref04_Tell_ks (cAt [1, 1, 1] ref04_Tell_c) t)) (ref04_Tell_e base)))))) t H d)) ((blockK 0 ((seqK (fun _ t => ref04_Tell_C base (cAt [1, 1, 1] ref04_Tell_c) (ref04_Tell_e base) (trimA ref04_Tell_ks (cAt [1, 1, 1] ref04_Tell_c) t)) (ref04_Tell_e base))))))) (trimA ref04_Tell_ks (cAt [1, 1, 0, 1, 0, 0, 1, 1] ref04_Tell_c) t)) ((loopK ref04_Tell_ks (cAt [1, 1, 0, 1, 0, 0] ref04_Tell_c) (iterL (fun t H d again => ref04_Tell_C base (cAt [1, 1, 0, 1, 0, 0] ref04_Tell_c) (loopK ref04_Tell_ks (cAt [1, 1, 0, 1, 0, 0] ref04_Tell_c) again ((blockK 0 ((seqK (fun _ t => ref04_Tell_C base (cAt [1, 1, 1] ref04_Tell_c) (ref04_Tell_e base) (trimA ref04_Tell_ks (cAt [1, 1, 1] ref04_Tell_c) t)) (ref04_Tell_e base)))))) t H d)) ((blockK 0 ((seqK (fun _ t => ref04_Tell_C base (cAt [1, 1, 1] ref04_Tell_c) (ref04_Tell_e base) (trimA ref04_Tell_ks (cAt [1, 1, 1] ref04_Tell_c) t)) (ref04_Tell_e base))))))))))) [(0, t0), (4, t4), (5, t5), (6, t6)] H []
theorem ref04_Tell_j2_eq (base : Nat) (t0 t4 t5 t6 : V) (H : Heap) : ref04_Tell_j2 base t0 t4 t5 t6 H =
 bnd (oIndexPtr 8 t0 t5) fun v20 =>
 bnd (oFieldPtr v20 0) fun v21 =>
 bnd (oLoad false 1 H v21) fun v22 =>
 bnd (oBin .add 6 t4 v22) fun v23 =>
 bnd (oBin .add 6 v23 t6) fun v24 =>
 bnd (oIndexPtr 8 t0 t5) fun v25 =>
 bnd (oFieldPtr v25 2) fun v26 =>
 bnd (oLoad true 6 H v26) fun v27 =>
 bcall (E n_ref04_Text [v27] H) (fun v28 h29 =>
 sch (sam (oLoad false 1 h29 v21) v22) (
 bnd (oBin .add 6 v24 v28) fun v30 =>
 bnd (oBin .add 6 v30 (.str [10])) fun v31 =>
 ref04_Tell_j3 base t0 v31 t5 h29))
 (fun v28 h29 => pn false base v28 h29) := by kernel_rfl
theorem ref04_Tell_l1_eq (base : Nat) (t0 t4 t5 : V) (H : Heap) : ref04_Tell_l1 base t0 t4 t5 H =
 bnd (oLenSl t0) fun v0 =>
 bnd (oBin .lss 6 t5 v0) fun v1 =>
 cnd v1
 (bnd (oIndexPtr 8 t0 t5) fun v2 =>
 bnd (oFieldPtr v2 0) fun v3 =>
 bnd (oLoad false 1 H v3) fun v4 =>
 bcall (E n_ref04_Name [v4] H) (fun v5 h6 =>
 bnd (oUn .not v5) fun v7 =>
 bnd (gua v7 false (oMove t0) (some (.tup []))) fun v8 =>
 bnd (gua v7 false (oMove t5) (some (.tup []))) fun v9 =>
 bnd (gua v7 false (oIndexPtr 8 v8 v9) (some (.tup []))) fun v10 =>
 bnd (gua v7 false (oFieldPtr v10 2) (some (.tup []))) fun v11 =>
 bnd (gua v7 false (oLoad true 6 h6 v11) (some (.tup []))) fun v12 =>
 bcall (gua v7 false (E n_ref04_Right [v12, (.int .i64 50)] h6) (some (.ret (.tup []), h6))) (fun v13 h14 =>
 bnd (gua v7 false (oUn .not v13) (some (.tup []))) fun v15 =>
 bnd (oPick v7 (.bool true) v15) fun v16 =>
 cnd v16
 (rt false base (.tup [(.str []), (.int .i64 1)]) h14)
 (bnd (oIndexPtr 8 t0 t5) fun v17 =>
 bnd (oFieldPtr v17 1) fun v18 =>
 bnd (oLoad false 1 h14 v18) fun v19 =>
 cnd v19
 (ref04_Tell_j2 base t0 t4 t5 (.str [32, 61, 47, 32]) h14)
 (ref04_Tell_j2 base t0 t4 t5 (.str [32, 61, 32]) h14)))
 (fun v13 h14 => pn false base v13 h14))
 (fun v5 h6 => pn false base v5 h6))
 (rt false base (.tup [t4, (.int .i64 0)]) H) := (loop_eq (cAt [1, 1, 0, 1, 0, 0] ref04_Tell_c) ((blockK 0 ((seqK (fun _ t => ref04_Tell_C base (cAt [1, 1, 1] ref04_Tell_c) (ref04_Tell_e base) (trimA ref04_Tell_ks (cAt [1, 1, 1] ref04_Tell_c) t)) (ref04_Tell_e base))))) _ H []).trans (by kernel_rfl)
def ref04_Tell (base : Nat) (t0 : V) (H : Heap) : Option (Out × Heap) := ref04_Tell_C base ref04_Tell_c (ref04_Tell_e base) [(0, t0)] H []
theorem ref04_Tell_eq (base : Nat) (t0 : V) (H : Heap) : ref04_Tell base t0 H =
 ref04_Tell_l1 base t0 (.str []) (.int .i64 0) H := by kernel_rfl
theorem ref04_Tell_E (t0 : V) (H : Heap) : E n_ref04_Tell [t0] H = ref04_Tell H.length t0 H := (EV_at Tryd.func21 (by kernel_rfl) (by kernel_rfl) (by kernel_rfl)).trans (by kernel_rfl)

def ref04_Right_c : Code := bodyOf Tryd.f22
def ref04_Right_ks : Ks := [(2, [1, 2, 5]), (25, [])]
def ref04_Right_e (base : Nat) : KC (Out × Heap) := xEnd Tryd.prog D false base 170 Tryd.f22.results.toList
def ref04_Right_C (base : Nat) (c : Code) (k : KC (Out × Heap)) (t : Ts) (H : Heap) (d : Ds) : Option (Out × Heap) := xC Tryd.prog base false ref04_Right_ks E 170 c k t H d
def ref04_Right_l1 (base : Nat) (t1 t2 t5 : V) (H : Heap) : Option (Out × Heap) :=
iterL (fun t H d again => ref04_Right_C base (cAt [1, 0, 1, 0, 0] ref04_Right_c) (loopK ref04_Right_ks (cAt [1, 0, 1, 0, 0] ref04_Right_c) again ((blockK 0 ((seqK (fun _ t => ref04_Right_C base (cAt [1, 1] ref04_Right_c) (ref04_Right_e base) (trimA ref04_Right_ks (cAt [1, 1] ref04_Right_c) t)) (ref04_Right_e base)))))) t H d) [(1, t1), (2, t2), (5, t5)] H []
def ref04_Right_j2 (base : Nat) (H : Heap) : Option (Out × Heap) :=
ref04_Right_C base (cAt [1, 1, 1, 1, 1, 1, 1] ref04_Right_c) (ref04_Right_e base) [] H []
theorem ref04_Right_j2_eq (base : Nat) (H : Heap) : ref04_Right_j2 base  H =
 rt false base (.bool false) H := by kernel_rfl
theorem ref04_Right_l1_eq (base : Nat) (t1 t2 t5 : V) (H : Heap) : ref04_Right_l1 base t1 t2 t5 H =
 bnd (oFieldPtr t2 5) fun v2 =>
 bnd (oLoad false 1 H v2) fun v3 =>
 bnd (oLenSl v3) fun v4 =>
 bnd (oBin .lss 6 t5 v4) fun v5 =>
 cnd v5
 (bnd (oBin .lss 6 t1 (.int .i64 1)) fun v6 =>
 bnd (gua v6 false (oFieldPtr t2 5) (some (.tup []))) fun v7 =>
 bnd (gua v6 false (oLoad false 1 H v7) (some (.tup []))) fun v8 =>
 bnd (gua v6 false (oMove t5) (some (.tup []))) fun v9 =>
 bnd (gua v6 false (oIndexPtr 6 v8 v9) (some (.tup []))) fun v10 =>
 bnd (gua v6 false (oLoad true 6 H v10) (some (.tup []))) fun v11 =>
 bnd (gua v6 false (oMove t1) (some (.tup []))) fun v12 =>
 bnd (gua v6 false (oBin .sub 6 v12 (.int .i64 1)) (some (.tup []))) fun v13 =>
 bcall (gua v6 false (E n_ref04_Right [v11, v13] H) (some (.ret (.tup []), H))) (fun v14 h15 =>
 bnd (gua v6 false (oUn .not v14) (some (.tup []))) fun v16 =>
 bnd (oPick v6 (.bool true) v16) fun v17 =>
 cnd v17
 (rt false base (.bool false) h15)
 (bnd (oBin .add 6 t5 (.int .i64 1)) fun v18 =>
 ref04_Right_l1 base t1 t2 v18 h15))
 (fun v14 h15 => pn false base v14 h15))
 (bnd (oFieldPtr t2 0) fun v19 =>
 bnd (oLoad false 1 H v19) fun v20 =>
 bnd (oBin .eql 6 v20 (.int .i64 4)) fun v21 =>
 bnd (gua v21 false (oFieldPtr t2 0) (some (.tup []))) fun v22 =>
 bnd (gua v21 false (oLoad false 1 H v22) (some (.tup []))) fun v23 =>
 bnd (gua v21 false (oBin .eql 6 v23 (.int .i64 5)) (some (.tup []))) fun v24 =>
 bnd (oPick v21 (.bool true) v24) fun v25 =>
 bnd (oFieldPtr t2 0) fun v26 =>
 bnd (oLoad false 1 H v26) fun v27 =>
 bnd (oBin .eql 6 v27 (.int .i64 6)) fun v28 =>
 bnd (gua v28 false (oFieldPtr t2 0) (some (.tup []))) fun v29 =>
 bnd (gua v28 false (oLoad false 1 H v29) (some (.tup []))) fun v30 =>
 bnd (gua v28 false (oBin .eql 6 v30 (.int .i64 7)) (some (.tup []))) fun v31 =>
 bnd (oPick v28 (.bool true) v31) fun v32 =>
 bnd (oUn .not v25) fun v33 =>
 bnd (gua v33 true (oFieldPtr t2 1) (some (.tup []))) fun v34 =>
 bnd (gua v33 true (oLoad false 1 H v34) (some (.tup []))) fun v35 =>
 bnd (gua v33 true (oBin .neq 6 v35 (.str [])) (some (.tup []))) fun v36 =>
 bnd (oPick v33 v36 (.bool false)) fun v37 =>
 bnd (gua v37 false (oMove v32) (some (.tup []))) fun v38 =>
 bnd (gua v37 false (oUn .not v38) (some (.tup []))) fun v39 =>
 bnd (gua v37 false (oMove v39) (some (.tup []))) fun v40 =>
 bnd (gua v40 true (oFieldPtr t2 2) (some (.tup []))) fun v41 =>
 bnd (gua v40 true (oLoad false 1 H v41) (some (.tup []))) fun v42 =>
 bnd (gua v40 true (oLenSl v42) (some (.tup []))) fun v43 =>
 bnd (gua v40 true (oBin .gtr 6 v43 (.int .i64 0)) (some (.tup []))) fun v44 =>
 bnd (gua v37 false (oPick v40 v44 (.bool false)) (some (.tup []))) fun v45 =>
 bnd (oPick v37 (.bool true) v45) fun v46 =>
 bnd (gua v46 false (oFieldPtr t2 0) (some (.tup []))) fun v47 =>
 bnd (gua v46 false (oLoad false 1 H v47) (some (.tup []))) fun v48 =>
 bnd (gua v46 false (oBin .neq 6 v48 (.int .i64 3)) (some (.tup []))) fun v49 =>
 bnd (gua v46 false (oMove v49) (some (.tup []))) fun v50 =>
 bnd (gua v50 true (oFieldPtr t2 3) (some (.tup []))) fun v51 =>
 bnd (gua v50 true (oLoad false 1 H v51) (some (.tup []))) fun v52 =>
 bnd (gua v50 true (oBin .neq 6 v52 (.int .i64 0)) (some (.tup []))) fun v53 =>
 bnd (gua v50 true (oMove v53) (some (.tup []))) fun v54 =>
 bnd (gua v54 false (oFieldPtr t2 4) (some (.tup []))) fun v55 =>
 bnd (gua v54 false (oLoad false 1 H v55) (some (.tup []))) fun v56 =>
 bnd (gua v54 false (oBin .neq 6 v56 (.int .i64 0)) (some (.tup []))) fun v57 =>
 bnd (gua v50 true (oPick v54 (.bool true) v57) (some (.tup []))) fun v58 =>
 bnd (gua v46 false (oPick v50 v58 (.bool false)) (some (.tup []))) fun v59 =>
 bnd (oPick v46 (.bool true) v59) fun v60 =>
 cnd v60
 (rt false base (.bool false) H)
 (bnd (oFieldPtr t2 5) fun v61 =>
 bnd (oLoad false 1 H v61) fun v62 =>
 bnd (oLenSl v62) fun v63 =>
 bnd (oFieldPtr t2 0) fun v64 =>
 bnd (oLoad false 1 H v64) fun v65 =>
 bnd (oBin .eql 6 v65 (.int .i64 1)) fun v66 =>
 cnd v66
 (cnd v66
 (bnd (oBin .gtr 6 v63 (.int .i64 1)) fun v67 =>
 rt false base v67 H)
 (bnd (oBin .eql 6 v65 (.int .i64 3)) fun v68 =>
 cnd v68
 (bnd (oBin .eql 6 v63 (.int .i64 1)) fun v69 =>
 bnd (gua v69 true (oFieldPtr t2 3) (some (.tup []))) fun v70 =>
 bnd (gua v69 true (oLoad false 1 H v70) (some (.tup []))) fun v71 =>
 bnd (gua v69 true (oBin .geq 6 v71 (.int .i64 0)) (some (.tup []))) fun v72 =>
 bnd (oPick v69 v72 (.bool false)) fun v73 =>
 bnd (gua v73 true (oFieldPtr t2 3) (some (.tup []))) fun v74 =>
 bnd (gua v73 true (oLoad false 1 H v74) (some (.tup []))) fun v75 =>
 bnd (gua v73 true (oBin .leq 6 v75 (.int .i64 200)) (some (.tup []))) fun v76 =>
 bnd (oPick v73 v76 (.bool false)) fun v77 =>
 bnd (gua v77 true (oFieldPtr t2 4) (some (.tup []))) fun v78 =>
 bnd (gua v77 true (oLoad false 1 H v78) (some (.tup []))) fun v79 =>
 bnd (gua v77 true (oBin .leq 6 v79 (.int .i64 200)) (some (.tup []))) fun v80 =>
 bnd (oPick v77 v80 (.bool false)) fun v81 =>
 bnd (gua v81 true (oFieldPtr t2 4) (some (.tup []))) fun v82 =>
 bnd (gua v81 true (oLoad false 1 H v82) (some (.tup []))) fun v83 =>
 bnd (gua v81 true (oBin .geq 6 v83 (.int .i64 (-1))) (some (.tup []))) fun v84 =>
 bnd (oPick v81 v84 (.bool false)) fun v85 =>
 bnd (gua v85 true (oFieldPtr t2 4) (some (.tup []))) fun v86 =>
 bnd (gua v85 true (oLoad false 1 H v86) (some (.tup []))) fun v87 =>
 bnd (gua v85 true (oBin .lss 6 v87 (.int .i64 0)) (some (.tup []))) fun v88 =>
 bnd (gua v85 true (oMove v88) (some (.tup []))) fun v89 =>
 bnd (gua v89 false (oFieldPtr t2 4) (some (.tup []))) fun v90 =>
 bnd (gua v89 false (oLoad false 1 H v90) (some (.tup []))) fun v91 =>
 bnd (gua v89 false (oFieldPtr t2 3) (some (.tup []))) fun v92 =>
 bnd (gua v89 false (oLoad false 1 H v92) (some (.tup []))) fun v93 =>
 bnd (gua v89 false (oBin .geq 6 v91 v93) (some (.tup []))) fun v94 =>
 bnd (gua v85 true (oPick v89 (.bool true) v94) (some (.tup []))) fun v95 =>
 bnd (oPick v85 v95 (.bool false)) fun v96 =>
 rt false base v96 H)
 (bnd (oBin .eql 6 v65 (.int .i64 4)) fun v97 =>
 cnd v97
 (bnd (oBin .eql 6 v63 (.int .i64 0)) fun v98 =>
 bnd (gua v98 true (oFieldPtr t2 1) (some (.tup []))) fun v99 =>
 bnd (gua v98 true (oLoad false 1 H v99) (some (.tup []))) fun v100 =>
 bcall (gua v98 true (E n_ref04_Name [v100] H) (some (.ret (.tup []), H))) (fun v101 h102 =>
 bnd (oPick v98 v101 (.bool false)) fun v103 =>
 rt false base v103 h102)
 (fun v101 h102 => pn false base v101 h102))
 (bnd (oBin .eql 6 v65 (.int .i64 5)) fun v104 =>
 cnd v104
 (bnd (oBin .eql 6 v63 (.int .i64 0)) fun v105 =>
 bnd (gua v105 true (oFieldPtr t2 1) (some (.tup []))) fun v106 =>
 bnd (gua v105 true (oLoad false 1 H v106) (some (.tup []))) fun v107 =>
 bcall (gua v105 true (E n_ref04_fold [v107] H) (some (.ret (.tup []), H))) (fun v108 h109 =>
 bnd (oPick v105 v108 (.bool false)) fun v110 =>
 rt false base v110 h109)
 (fun v108 h109 => pn false base v108 h109))
 (bnd (oBin .eql 6 v65 (.int .i64 6)) fun v111 =>
 cnd v111
 (bnd (oBin .eql 6 v63 (.int .i64 0)) fun v112 =>
 bnd (gua v112 true (oFieldPtr t2 2) (some (.tup []))) fun v113 =>
 bnd (gua v112 true (oLoad false 1 H v113) (some (.tup []))) fun v114 =>
 bcall (gua v112 true (E n_ref04_nums [v114, (.int .i64 1), (.int .i64 10000)] H) (some (.ret (.tup []), H))) (fun v115 h116 =>
 bnd (oPick v112 v115 (.bool false)) fun v117 =>
 rt false base v117 h116)
 (fun v115 h116 => pn false base v115 h116))
 (bnd (oBin .eql 6 v65 (.int .i64 7)) fun v118 =>
 cnd v118
 (bnd (oBin .eql 6 v63 (.int .i64 0)) fun v119 =>
 bnd (gua v119 true (oFieldPtr t2 2) (some (.tup []))) fun v120 =>
 bnd (gua v119 true (oLoad false 1 H v120) (some (.tup []))) fun v121 =>
 bcall (gua v119 true (E n_ref04_nums [v121, (.int .i64 2), (.int .i64 2)] H) (some (.ret (.tup []), H))) (fun v122 h123 =>
 bnd (oPick v119 v122 (.bool false)) fun v124 =>
 bnd (gua v124 true (oFieldPtr t2 2) (some (.tup []))) fun v125 =>
 bnd (gua v124 true (oLoad false 1 h123 v125) (some (.tup []))) fun v126 =>
 bnd (gua v124 true (oIndexPtr 1 v126 (.int .i64 0)) (some (.tup []))) fun v127 =>
 bnd (gua v124 true (oLoad false 1 h123 v127) (some (.tup []))) fun v128 =>
 bnd (gua v124 true (oFieldPtr t2 2) (some (.tup []))) fun v129 =>
 bnd (gua v124 true (oLoad false 1 h123 v129) (some (.tup []))) fun v130 =>
 bnd (gua v124 true (oIndexPtr 1 v130 (.int .i64 1)) (some (.tup []))) fun v131 =>
 bnd (gua v124 true (oLoad false 1 h123 v131) (some (.tup []))) fun v132 =>
 bnd (gua v124 true (oBin .leq 6 v128 v132) (some (.tup []))) fun v133 =>
 bnd (oPick v124 v133 (.bool false)) fun v134 =>
 rt false base v134 h123)
 (fun v122 h123 => pn false base v122 h123))
 (ref04_Right_j2 base  H)))))))
 (bnd (oBin .eql 6 v65 (.int .i64 2)) fun v135 =>
 cnd v135
 (bnd (oBin .gtr 6 v63 (.int .i64 1)) fun v136 =>
 rt false base v136 H)
 (bnd (oBin .eql 6 v65 (.int .i64 3)) fun v137 =>
 cnd v137
 (bnd (oBin .eql 6 v63 (.int .i64 1)) fun v138 =>
 bnd (gua v138 true (oFieldPtr t2 3) (some (.tup []))) fun v139 =>
 bnd (gua v138 true (oLoad false 1 H v139) (some (.tup []))) fun v140 =>
 bnd (gua v138 true (oBin .geq 6 v140 (.int .i64 0)) (some (.tup []))) fun v141 =>
 bnd (oPick v138 v141 (.bool false)) fun v142 =>
 bnd (gua v142 true (oFieldPtr t2 3) (some (.tup []))) fun v143 =>
 bnd (gua v142 true (oLoad false 1 H v143) (some (.tup []))) fun v144 =>
 bnd (gua v142 true (oBin .leq 6 v144 (.int .i64 200)) (some (.tup []))) fun v145 =>
 bnd (oPick v142 v145 (.bool false)) fun v146 =>
 bnd (gua v146 true (oFieldPtr t2 4) (some (.tup []))) fun v147 =>
 bnd (gua v146 true (oLoad false 1 H v147) (some (.tup []))) fun v148 =>
 bnd (gua v146 true (oBin .leq 6 v148 (.int .i64 200)) (some (.tup []))) fun v149 =>
 bnd (oPick v146 v149 (.bool false)) fun v150 =>
 bnd (gua v150 true (oFieldPtr t2 4) (some (.tup []))) fun v151 =>
 bnd (gua v150 true (oLoad false 1 H v151) (some (.tup []))) fun v152 =>
 bnd (gua v150 true (oBin .geq 6 v152 (.int .i64 (-1))) (some (.tup []))) fun v153 =>
 bnd (oPick v150 v153 (.bool false)) fun v154 =>
 bnd (gua v154 true (oFieldPtr t2 4) (some (.tup []))) fun v155 =>
 bnd (gua v154 true (oLoad false 1 H v155) (some (.tup []))) fun v156 =>
 bnd (gua v154 true (oBin .lss 6 v156 (.int .i64 0)) (some (.tup []))) fun v157 =>
 bnd (gua v154 true (oMove v157) (some (.tup []))) fun v158 =>
 bnd (gua v158 false (oFieldPtr t2 4) (some (.tup []))) fun v159 =>
 bnd (gua v158 false (oLoad false 1 H v159) (some (.tup []))) fun v160 =>
 bnd (gua v158 false (oFieldPtr t2 3) (some (.tup []))) fun v161 =>
 bnd (gua v158 false (oLoad false 1 H v161) (some (.tup []))) fun v162 =>
 bnd (gua v158 false (oBin .geq 6 v160 v162) (some (.tup []))) fun v163 =>
 bnd (gua v154 true (oPick v158 (.bool true) v163) (some (.tup []))) fun v164 =>
 bnd (oPick v154 v164 (.bool false)) fun v165 =>
 rt false base v165 H)
 (bnd (oBin .eql 6 v65 (.int .i64 4)) fun v166 =>
 cnd v166
 (bnd (oBin .eql 6 v63 (.int .i64 0)) fun v167 =>
 bnd (gua v167 true (oFieldPtr t2 1) (some (.tup []))) fun v168 =>
 bnd (gua v167 true (oLoad false 1 H v168) (some (.tup []))) fun v169 =>
 bcall (gua v167 true (E n_ref04_Name [v169] H) (some (.ret (.tup []), H))) (fun v170 h171 =>
 bnd (oPick v167 v170 (.bool false)) fun v172 =>
 rt false base v172 h171)
 (fun v170 h171 => pn false base v170 h171))
 (bnd (oBin .eql 6 v65 (.int .i64 5)) fun v173 =>
 cnd v173
 (bnd (oBin .eql 6 v63 (.int .i64 0)) fun v174 =>
 bnd (gua v174 true (oFieldPtr t2 1) (some (.tup []))) fun v175 =>
 bnd (gua v174 true (oLoad false 1 H v175) (some (.tup []))) fun v176 =>
 bcall (gua v174 true (E n_ref04_fold [v176] H) (some (.ret (.tup []), H))) (fun v177 h178 =>
 bnd (oPick v174 v177 (.bool false)) fun v179 =>
 rt false base v179 h178)
 (fun v177 h178 => pn false base v177 h178))
 (bnd (oBin .eql 6 v65 (.int .i64 6)) fun v180 =>
 cnd v180
 (bnd (oBin .eql 6 v63 (.int .i64 0)) fun v181 =>
 bnd (gua v181 true (oFieldPtr t2 2) (some (.tup []))) fun v182 =>
 bnd (gua v181 true (oLoad false 1 H v182) (some (.tup []))) fun v183 =>
 bcall (gua v181 true (E n_ref04_nums [v183, (.int .i64 1), (.int .i64 10000)] H) (some (.ret (.tup []), H))) (fun v184 h185 =>
 bnd (oPick v181 v184 (.bool false)) fun v186 =>
 rt false base v186 h185)
 (fun v184 h185 => pn false base v184 h185))
 (bnd (oBin .eql 6 v65 (.int .i64 7)) fun v187 =>
 cnd v187
 (bnd (oBin .eql 6 v63 (.int .i64 0)) fun v188 =>
 bnd (gua v188 true (oFieldPtr t2 2) (some (.tup []))) fun v189 =>
 bnd (gua v188 true (oLoad false 1 H v189) (some (.tup []))) fun v190 =>
 bcall (gua v188 true (E n_ref04_nums [v190, (.int .i64 2), (.int .i64 2)] H) (some (.ret (.tup []), H))) (fun v191 h192 =>
 bnd (oPick v188 v191 (.bool false)) fun v193 =>
 bnd (gua v193 true (oFieldPtr t2 2) (some (.tup []))) fun v194 =>
 bnd (gua v193 true (oLoad false 1 h192 v194) (some (.tup []))) fun v195 =>
 bnd (gua v193 true (oIndexPtr 1 v195 (.int .i64 0)) (some (.tup []))) fun v196 =>
 bnd (gua v193 true (oLoad false 1 h192 v196) (some (.tup []))) fun v197 =>
 bnd (gua v193 true (oFieldPtr t2 2) (some (.tup []))) fun v198 =>
 bnd (gua v193 true (oLoad false 1 h192 v198) (some (.tup []))) fun v199 =>
 bnd (gua v193 true (oIndexPtr 1 v199 (.int .i64 1)) (some (.tup []))) fun v200 =>
 bnd (gua v193 true (oLoad false 1 h192 v200) (some (.tup []))) fun v201 =>
 bnd (gua v193 true (oBin .leq 6 v197 v201) (some (.tup []))) fun v202 =>
 bnd (oPick v193 v202 (.bool false)) fun v203 =>
 rt false base v203 h192)
 (fun v191 h192 => pn false base v191 h192))
 (ref04_Right_j2 base  H))))))))) := (loop_eq (cAt [1, 0, 1, 0, 0] ref04_Right_c) ((blockK 0 ((seqK (fun _ t => ref04_Right_C base (cAt [1, 1] ref04_Right_c) (ref04_Right_e base) (trimA ref04_Right_ks (cAt [1, 1] ref04_Right_c) t)) (ref04_Right_e base))))) _ H []).trans (by kernel_rfl)
def ref04_Right (base : Nat) (t0 t1 : V) (H : Heap) : Option (Out × Heap) := ref04_Right_C base ref04_Right_c (ref04_Right_e base) [(0, t0), (1, t1)] H []
theorem ref04_Right_eq (base : Nat) (t0 t1 : V) (H : Heap) : ref04_Right base t0 t1 H =
 beff (oVar H t0) fun v0 h1 =>
 ref04_Right_l1 base t1 v0 (.int .i64 0) h1 := by kernel_rfl
theorem ref04_Right_E (t0 t1 : V) (H : Heap) : E n_ref04_Right [t0, t1] H = ref04_Right H.length t0 t1 H := (EV_at Tryd.func22 (by kernel_rfl) (by kernel_rfl) (by kernel_rfl)).trans (by kernel_rfl)

def law04_picker_pick_c : Code := bodyOf Tryd.f23
def law04_picker_pick_ks : Ks := []
def law04_picker_pick_e (base : Nat) : KC (Out × Heap) := xEnd Tryd.prog D false base 43 Tryd.f23.results.toList
def law04_picker_pick_C (base : Nat) (c : Code) (k : KC (Out × Heap)) (t : Ts) (H : Heap) (d : Ds) : Option (Out × Heap) := xC Tryd.prog base false law04_picker_pick_ks E 43 c k t H d
def law04_picker_pick (base : Nat) (t0 t1 : V) (H : Heap) : Option (Out × Heap) := law04_picker_pick_C base law04_picker_pick_c (law04_picker_pick_e base) [(0, t0), (1, t1)] H []
theorem law04_picker_pick_eq (base : Nat) (t0 t1 : V) (H : Heap) : law04_picker_pick base t0 t1 H =
 bnd (oNil t0) fun v0 =>
 bnd (oFieldPtr v0 1) fun v1 =>
 bnd (oLoad false 1 H v1) fun v2 =>
 bnd (oBin .add 6 v2 (.int .i64 1)) fun v3 =>
 bnd (oNil t0) fun v4 =>
 bnd (oFieldPtr v4 1) fun v5 =>
 beff (oStore base 1 H v5 v3) fun v6 h7 =>
 bnd (oNil t0) fun v8 =>
 bnd (oFieldPtr v8 1) fun v9 =>
 bnd (oLoad false 1 h7 v9) fun v10 =>
 bnd (oNil t0) fun v11 =>
 bnd (oFieldPtr v11 0) fun v12 =>
 bnd (oLoad false 1 h7 v12) fun v13 =>
 bnd (oLenSl v13) fun v14 =>
 bnd (oBin .gtr 6 v10 v14) fun v15 =>
 bnd (gua v15 false (oMove t0) (some (.tup []))) fun v16 =>
 bnd (gua v15 false (oNil v16) (some (.tup []))) fun v17 =>
 bnd (gua v15 false (oFieldPtr v17 1) (some (.tup []))) fun v18 =>
 bnd (gua v15 false (oLoad false 1 h7 v18) (some (.tup []))) fun v19 =>
 bnd (gua v15 false (oBin .gtr 6 v19 (.int .i64 150)) (some (.tup []))) fun v20 =>
 bnd (oPick v15 (.bool true) v20) fun v21 =>
 cnd v21
 (rt false base (.int .i64 0) h7)
 (bnd (oNil t0) fun v22 =>
 bnd (oFieldPtr v22 0) fun v23 =>
 bnd (oLoad false 1 h7 v23) fun v24 =>
 bnd (oNil t0) fun v25 =>
 bnd (oFieldPtr v25 1) fun v26 =>
 bnd (oLoad false 1 h7 v26) fun v27 =>
 bnd (oBin .sub 6 v27 (.int .i64 1)) fun v28 =>
 bnd (oIndexPtr 1 v24 v28) fun v29 =>
 bnd (oLoad false 1 h7 v29) fun v30 =>
 bnd (oIntTo .i64 v30) fun v31 =>
 bnd (oBin .rem 6 v31 t1) fun v32 =>
 rt false base v32 h7) := by kernel_rfl
theorem law04_picker_pick_E (t0 t1 : V) (H : Heap) : E n_law04_picker_pick [t0, t1] H = law04_picker_pick H.length t0 t1 H := (EV_at Tryd.func23 (by kernel_rfl) (by kernel_rfl) (by kernel_rfl)).trans (by kernel_rfl)

def law04_picker_expr_c : Code := bodyOf Tryd.f24
def law04_picker_expr_ks : Ks := [(4, [0, 1, 4, 5]), (18, [0, 1, 4, 8, 9])]
def law04_picker_expr_e (base : Nat) : KC (Out × Heap) := xEnd Tryd.prog D false base 102 Tryd.f24.results.toList
def law04_picker_expr_C (base : Nat) (c : Code) (k : KC (Out × Heap)) (t : Ts) (H : Heap) (d : Ds) : Option (Out × Heap) := xC Tryd.prog base false law04_picker_expr_ks E 102 c k t H d
def law04_picker_expr_l2 (base : Nat) (t0 t1 t4 t8 t9 : V) (H : Heap) : Option (Out × Heap) :=
iterL (fun t H d again => law04_picker_expr_C base (cAt [1, 1, 1, 1, 1, 0, 1, 0, 0] law04_picker_expr_c) (loopK law04_picker_expr_ks (cAt [1, 1, 1, 1, 1, 0, 1, 0, 0] law04_picker_expr_c) again ((blockK 1 ((seqK (fun _ t => law04_picker_expr_C base (cAt [1, 1, 1, 1, 1, 1] law04_picker_expr_c) (law04_picker_expr_e base) (trimA law04_picker_expr_ks (cAt [1, 1, 1, 1, 1, 1] law04_picker_expr_c) t)) (law04_picker_expr_e base)))))) t H d) [(0, t0), (1, t1), (4, t4), (8, t8), (9, t9)] H []
theorem law04_picker_expr_l2_eq (base : Nat) (t0 t1 t4 t8 t9 : V) (H : Heap) : law04_picker_expr_l2 base t0 t1 t4 t8 t9 H =
 bnd (oBin .gtr 6 t9 (.int .i64 0)) fun v84 =>
 cnd v84
 (bnd (oFieldPtr t8 5) fun v85 =>
 bnd (oLoad false 1 H v85) fun v86 =>
 bnd (oBin .sub 6 t1 (.int .i64 1)) fun v87 =>
 bcall (E n_law04_picker_expr [t0, v87] H) (fun v88 h89 =>
 sch (sam (oLoad false 1 h89 v85) v86) (
 bnd (oLit 6 1 (.agg [(.int .i64 0), (.str []), (.vs []), (.int .i64 0), (.int .i64 0), (.vs [])]) [(0, v88)]) fun v90 =>
 beff (oAppend base 6 88 true v86 v90 h89) fun v91 h92 =>
 bnd (oFieldPtr t8 5) fun v93 =>
 beff (oStore base 1 h92 v93 v91) fun v94 h95 =>
 bnd (oBin .sub 6 t9 (.int .i64 1)) fun v96 =>
 law04_picker_expr_l2 base t0 t1 t4 t8 v96 h95))
 (fun v88 h89 => pn false base v88 h89))
 (bnd (oLoad true 6 H t8) fun v97 =>
 beff (oStore base 6 H t4 v97) fun v98 h99 =>
 bnd (oLoad true 6 h99 t4) fun v100 =>
 rt false base v100 h99) := (loop_eq (cAt [1, 1, 1, 1, 1, 0, 1, 0, 0] law04_picker_expr_c) ((blockK 1 ((seqK (fun _ t => law04_picker_expr_C base (cAt [1, 1, 1, 1, 1, 1] law04_picker_expr_c) (law04_picker_expr_e base) (trimA law04_picker_expr_ks (cAt [1, 1, 1, 1, 1, 1] law04_picker_expr_c) t)) (law04_picker_expr_e base))))) _ H []).trans (by kernel_rfl)
def law04_picker_expr_j1 (base : Nat) (t0 t1 t4 t5 : V) (H : Heap) : Option (Out × Heap) :=
law04_picker_expr_C base (cAt [1, 1, 1] law04_picker_expr_c) (law04_picker_expr_e base) [(0, t0), (1, t1), (4, t4), (5, t5)] H []
theorem law04_picker_expr_j1_eq (base : Nat) (t0 t1 t4 t5 : V) (H : Heap) : law04_picker_expr_j1 base t0 t1 t4 t5 H =
 bnd (oBin .lss 6 t5 (.int .i64 2)) fun v6 =>
 cnd v6
 (bnd (oLit 1 5 (.str []) [(0, (.str [97])), (1, (.str [98])), (2, (.str [99])), (3, (.str [119, 111, 114, 100])), (4, (.str [120, 45, 49]))]) fun v7 =>
 bcall (E n_law04_picker_pick [t0, (.int .i64 5)] H) (fun v8 h9 =>
 bnd (oIndexPtr 1 v7 v8) fun v10 =>
 bnd (oLoad false 1 h9 v10) fun v11 =>
 bnd (oBuild [(.int .i64 0), (.str []), .nils, (.int .i64 0), (.int .i64 0), .nils] [(0, 1), (1, 1), (2, 1), (3, 1), (4, 1), (5, 1)] [(0, (.int .i64 4)), (1, v11)]) fun v12 =>
 beff (oStore base 6 h9 t4 v12) fun v13 h14 =>
 bnd (oLoad true 6 h14 t4) fun v15 =>
 rt false base v15 h14)
 (fun v8 h9 => pn false base v8 h9))
 (bnd (oBin .eql 6 t5 (.int .i64 2)) fun v16 =>
 cnd v16
 (bnd (oLit 1 5 (.str []) [(0, (.str [])), (1, (.str [97])), (2, (.str [98, 32, 99])), (3, (.str [120, 59])), (4, (.str [105, 102]))]) fun v17 =>
 bcall (E n_law04_picker_pick [t0, (.int .i64 5)] H) (fun v18 h19 =>
 bnd (oIndexPtr 1 v17 v18) fun v20 =>
 bnd (oLoad false 1 h19 v20) fun v21 =>
 bnd (oBuild [(.int .i64 0), (.str []), .nils, (.int .i64 0), (.int .i64 0), .nils] [(0, 1), (1, 1), (2, 1), (3, 1), (4, 1), (5, 1)] [(0, (.int .i64 5)), (1, v21)]) fun v22 =>
 beff (oStore base 6 h19 t4 v22) fun v23 h24 =>
 bnd (oLoad true 6 h24 t4) fun v25 =>
 rt false base v25 h24)
 (fun v18 h19 => pn false base v18 h19))
 (bnd (oBin .eql 6 t5 (.int .i64 3)) fun v26 =>
 cnd v26
 (bnd (oLit 1 5 (.int .i64 0) [(0, (.int .i64 0)), (1, (.int .i64 65)), (2, (.int .i64 10)), (3, (.int .i64 255)), (4, (.int .i64 1114111))]) fun v27 =>
 bcall (E n_law04_picker_pick [t0, (.int .i64 5)] H) (fun v28 h29 =>
 bnd (oIndexPtr 1 v27 v28) fun v30 =>
 bnd (oLoad false 1 h29 v30) fun v31 =>
 bcall (E n_law04_picker_pick [t0, (.int .i64 4)] h29) (fun v32 h33 =>
 sch (sam (oLoad false 1 h33 v30) v31) (
 bnd (oBin .add 6 (.int .i64 97) v32) fun v34 =>
 bnd (oLit 1 2 (.int .i64 0) [(0, v31), (1, v34)]) fun v35 =>
 bcall (E n_law04_picker_pick [t0, (.int .i64 2)] h33) (fun v36 h37 =>
 sch (sam (oLoad false 1 h37 v30) v31) (
 bnd (oBin .add 6 (.int .i64 1) v36) fun v38 =>
 bnd (oSlice 1 v35 none (some v38) none) fun v39 =>
 bnd (oBuild [(.int .i64 0), (.str []), .nils, (.int .i64 0), (.int .i64 0), .nils] [(0, 1), (1, 1), (2, 1), (3, 1), (4, 1), (5, 1)] [(0, (.int .i64 6)), (2, v39)]) fun v40 =>
 beff (oStore base 6 h37 t4 v40) fun v41 h42 =>
 bnd (oLoad true 6 h42 t4) fun v43 =>
 rt false base v43 h42))
 (fun v36 h37 => pn false base v36 h37)))
 (fun v32 h33 => sch (tlb (oMove t0) fun v44 => true) (pn false base v32 h33)))
 (fun v28 h29 => sch (tlb (oMove t0) fun v45 => tlb (oMove t0) fun v46 => true) (pn false base v28 h29)))
 (bnd (oBin .eql 6 t5 (.int .i64 4)) fun v47 =>
 cnd v47
 (bcall (E n_law04_picker_pick [t0, (.int .i64 200)] H) (fun v48 h49 =>
 bcall (E n_law04_picker_pick [t0, (.int .i64 60)] h49) (fun v50 h51 =>
 bnd (oBin .add 6 v48 v50) fun v52 =>
 bnd (oLit 1 2 (.int .i64 0) [(0, v48), (1, v52)]) fun v53 =>
 bnd (oBuild [(.int .i64 0), (.str []), .nils, (.int .i64 0), (.int .i64 0), .nils] [(0, 1), (1, 1), (2, 1), (3, 1), (4, 1), (5, 1)] [(0, (.int .i64 7)), (2, v53)]) fun v54 =>
 beff (oStore base 6 h51 t4 v54) fun v55 h56 =>
 bnd (oLoad true 6 h56 t4) fun v57 =>
 rt false base v57 h56)
 (fun v50 h51 => pn false base v50 h51))
 (fun v48 h49 => pn false base v48 h49))
 (bnd (oBin .lss 6 t5 (.int .i64 7)) fun v58 =>
 cnd v58
 (bcall (E n_law04_picker_pick [t0, (.int .i64 5)] H) (fun v59 h60 =>
 bnd (oBin .sub 6 v59 (.int .i64 1)) fun v61 =>
 bcall (E n_law04_picker_pick [t0, (.int .i64 3)] h60) (fun v62 h63 =>
 bnd (oMax [v61, (.int .i64 0)]) fun v64 =>
 bnd (oMin [v62, v64]) fun v65 =>
 bnd (oBin .sub 6 t1 (.int .i64 1)) fun v66 =>
 bcall (E n_law04_picker_expr [t0, v66] h63) (fun v67 h68 =>
 bnd (oLit 6 1 (.agg [(.int .i64 0), (.str []), (.vs []), (.int .i64 0), (.int .i64 0), (.vs [])]) [(0, v67)]) fun v69 =>
 bnd (oBuild [(.int .i64 0), (.str []), .nils, (.int .i64 0), (.int .i64 0), .nils] [(0, 1), (1, 1), (2, 1), (3, 1), (4, 1), (5, 1)] [(0, (.int .i64 3)), (3, v65), (4, v61), (5, v69)]) fun v70 =>
 beff (oStore base 6 h68 t4 v70) fun v71 h72 =>
 bnd (oLoad true 6 h72 t4) fun v73 =>
 rt false base v73 h72)
 (fun v67 h68 => pn false base v67 h68))
 (fun v62 h63 => pn false base v62 h63))
 (fun v59 h60 => pn false base v59 h60))
 (bnd (oBin .rem 6 t5 (.int .i64 2)) fun v74 =>
 bnd (oBin .add 6 (.int .i64 1) v74) fun v75 =>
 bnd (oBuild [(.int .i64 0), (.str []), .nils, (.int .i64 0), (.int .i64 0), .nils] [(0, 1), (1, 1), (2, 1), (3, 1), (4, 1), (5, 1)] [(0, v75)]) fun v76 =>
 beff (oVar H (.agg [(.int .i64 0), (.str []), .nils, (.int .i64 0), (.int .i64 0), .nils])) fun v77 h78 =>
 beff (oStore base 6 h78 v77 v76) fun v79 h80 =>
 bcall (E n_law04_picker_pick [t0, (.int .i64 2)] h80) (fun v81 h82 =>
 bnd (oBin .add 6 (.int .i64 2) v81) fun v83 =>
 law04_picker_expr_l2 base t0 t1 t4 v77 v83 h82)
 (fun v81 h82 => pn false base v81 h82)))))) := by kernel_rfl
def law04_picker_expr (base : Nat) (t0 t1 : V) (H : Heap) : Option (Out × Heap) := law04_picker_expr_C base law04_picker_expr_c (law04_picker_expr_e base) [(0, t0), (1, t1)] H []
theorem law04_picker_expr_eq (base : Nat) (t0 t1 : V) (H : Heap) : law04_picker_expr base t0 t1 H =
 beff (oVar H (.agg [(.int .i64 0), (.str []), .nils, (.int .i64 0), (.int .i64 0), .nils])) fun v0 h1 =>
 bcall (E n_law04_picker_pick [t0, (.int .i64 12)] h1) (fun v2 h3 =>
 bnd (oBin .lss 6 t1 (.int .i64 1)) fun v4 =>
 cnd v4
 (bnd (oBin .rem 6 v2 (.int .i64 5)) fun v5 =>
 law04_picker_expr_j1 base t0 t1 v0 v5 h3)
 (law04_picker_expr_j1 base t0 t1 v0 v2 h3))
 (fun v2 h3 => pn false base v2 h3) := by kernel_rfl
theorem law04_picker_expr_E (t0 t1 : V) (H : Heap) : E n_law04_picker_expr [t0, t1] H = law04_picker_expr H.length t0 t1 H := (EV_at Tryd.func24 (by kernel_rfl) (by kernel_rfl) (by kernel_rfl)).trans (by kernel_rfl)

def strings_Builder_WriteString_c : Code := bodyOf Tryd.f25
def strings_Builder_WriteString_ks : Ks := []
def strings_Builder_WriteString_e (base : Nat) : KC (Out × Heap) := xEnd Tryd.prog D false base 19 Tryd.f25.results.toList
def strings_Builder_WriteString_C (base : Nat) (c : Code) (k : KC (Out × Heap)) (t : Ts) (H : Heap) (d : Ds) : Option (Out × Heap) := xC Tryd.prog base false strings_Builder_WriteString_ks E 19 c k t H d
def strings_Builder_WriteString (base : Nat) (t0 t1 : V) (H : Heap) : Option (Out × Heap) := strings_Builder_WriteString_C base strings_Builder_WriteString_c (strings_Builder_WriteString_e base) [(0, t0), (1, t1)] H []
theorem strings_Builder_WriteString_eq (base : Nat) (t0 t1 : V) (H : Heap) : strings_Builder_WriteString base t0 t1 H =
 bcall (E n_strings_Builder_copyCheck [t0] H) (fun v0 h1 =>
 bnd (oNil t0) fun v2 =>
 bnd (oFieldPtr v2 1) fun v3 =>
 bnd (oLoad false 1 h1 v3) fun v4 =>
 beff (oAppendS base 1 1 false v4 t1 h1) fun v5 h6 =>
 bnd (oNil t0) fun v7 =>
 bnd (oFieldPtr v7 1) fun v8 =>
 beff (oStore base 1 h6 v8 v5) fun v9 h10 =>
 bnd (oLenStr t1) fun v11 =>
 rt false base (.tup [v11, .niface]) h10)
 (fun v0 h1 => pn false base v0 h1) := by kernel_rfl
theorem strings_Builder_WriteString_E (t0 t1 : V) (H : Heap) : E n_strings_Builder_WriteString [t0, t1] H = strings_Builder_WriteString H.length t0 t1 H := (EV_at Tryd.func25 (by kernel_rfl) (by kernel_rfl) (by kernel_rfl)).trans (by kernel_rfl)

def teller_text_c : Code := bodyOf Tryd.f26
def teller_text_ks : Ks := []
def teller_text_e (base : Nat) : KC (Out × Heap) := xEnd Tryd.prog D false base 63 Tryd.f26.results.toList
def teller_text_C (base : Nat) (c : Code) (k : KC (Out × Heap)) (t : Ts) (H : Heap) (d : Ds) : Option (Out × Heap) := xC Tryd.prog base false teller_text_ks E 63 c k t H d
def teller_text (base : Nat) (t0 : V) (H : Heap) : Option (Out × Heap) := teller_text_C base teller_text_c (teller_text_e base) [(0, t0)] H []
theorem teller_text_eq (base : Nat) (t0 : V) (H : Heap) : teller_text base t0 H =
 beff (oVar H t0) fun v0 h1 =>
 bnd (oFieldPtr v0 0) fun v2 =>
 bnd (oLoad false 1 h1 v2) fun v3 =>
 bnd (oBin .eql 6 v3 (.int .i64 1)) fun v4 =>
 cnd v4
 (bnd (oFieldPtr v0 5) fun v5 =>
 bnd (oLoad false 1 h1 v5) fun v6 =>
 bnd (oLit 1 1 (.int .i64 0) [(0, (.int .i64 1))]) fun v7 =>
 bcall (E n_teller_texts [v6, v7] h1) (fun v8 h9 =>
 bcall (E n_strings_Join [v8, (.str [32, 47, 32])] h9) (fun v10 h11 =>
 rt false base v10 h11)
 (fun v10 h11 => pn false base v10 h11))
 (fun v8 h9 => pn false base v8 h9))
 (bnd (oBin .eql 6 v3 (.int .i64 2)) fun v12 =>
 cnd v12
 (bnd (oFieldPtr v0 5) fun v13 =>
 bnd (oLoad false 1 h1 v13) fun v14 =>
 bnd (oLit 1 2 (.int .i64 0) [(0, (.int .i64 1)), (1, (.int .i64 2))]) fun v15 =>
 bcall (E n_teller_texts [v14, v15] h1) (fun v16 h17 =>
 bcall (E n_strings_Join [v16, (.str [32])] h17) (fun v18 h19 =>
 rt false base v18 h19)
 (fun v18 h19 => pn false base v18 h19))
 (fun v16 h17 => pn false base v16 h17))
 (bnd (oBin .eql 6 v3 (.int .i64 3)) fun v20 =>
 cnd v20
 (bnd (oFieldPtr v0 3) fun v21 =>
 bnd (oLoad false 1 h1 v21) fun v22 =>
 bnd (oBin .eql 6 v22 (.int .i64 0)) fun v23 =>
 bnd (gua v23 true (oFieldPtr v0 4) (some (.tup []))) fun v24 =>
 bnd (gua v23 true (oLoad false 1 h1 v24) (some (.tup []))) fun v25 =>
 bnd (gua v23 true (oBin .eql 6 v25 (.int .i64 1)) (some (.tup []))) fun v26 =>
 bnd (oPick v23 v26 (.bool false)) fun v27 =>
 cnd v27
 (bnd (oFieldPtr v0 5) fun v28 =>
 bnd (oLoad false 1 h1 v28) fun v29 =>
 bnd (oIndexPtr 6 v29 (.int .i64 0)) fun v30 =>
 bnd (oLoad true 6 h1 v30) fun v31 =>
 bcall (E n_teller_text [v31] h1) (fun v32 h33 =>
 bnd (oBin .add 6 (.str [91]) v32) fun v34 =>
 bnd (oBin .add 6 v34 (.str [93])) fun v35 =>
 rt false base v35 h33)
 (fun v32 h33 => pn false base v32 h33))
 (bnd (oLoad true 6 h1 v0) fun v36 =>
 bcall (E n_teller_often [v36] h1) (fun v37 h38 =>
 bnd (oFieldPtr v0 5) fun v39 =>
 bnd (bnd (oLoad false 1 h38 v39) fun v40 => sch (sam (oLoad false 1 h1 v39) v40) (
 some v40)) fun v40 =>
 bnd (oLit 1 3 (.int .i64 0) [(0, (.int .i64 1)), (1, (.int .i64 2)), (2, (.int .i64 3))]) fun v41 =>
 bcall (E n_teller_texts [v40, v41] h38) (fun v42 h43 =>
 bnd (oIndexPtr 1 v42 (.int .i64 0)) fun v44 =>
 bnd (oLoad false 1 h43 v44) fun v45 =>
 bnd (oBin .add 6 v37 v45) fun v46 =>
 rt false base v46 h43)
 (fun v42 h43 => pn false base v42 h43))
 (fun v37 h38 => sch (tlb (oFieldPtr v0 5) fun v47 => tlb (oLoad false 1 h1 v47) fun v48 => tlb (oLit 1 3 (.int .i64 0) [(0, (.int .i64 1)), (1, (.int .i64 2)), (2, (.int .i64 3))]) fun v49 => true) (pn false base v37 h38))))
 (bnd (oBin .eql 6 v3 (.int .i64 4)) fun v50 =>
 cnd v50
 (bnd (oFieldPtr v0 1) fun v51 =>
 bnd (oLoad false 1 h1 v51) fun v52 =>
 rt false base v52 h1)
 (bnd (oBin .eql 6 v3 (.int .i64 5)) fun v53 =>
 cnd v53
 (bnd (oFieldPtr v0 1) fun v54 =>
 bnd (oLoad false 1 h1 v54) fun v55 =>
 bnd (oBin .add 6 (.str [34]) v55) fun v56 =>
 bnd (oBin .add 6 v56 (.str [34])) fun v57 =>
 rt false base v57 h1)
 (bnd (oBin .eql 6 v3 (.int .i64 6)) fun v58 =>
 cnd v58
 (bnd (oFieldPtr v0 2) fun v59 =>
 bnd (oLoad false 1 h1 v59) fun v60 =>
 bcall (E n_teller_numbers [v60, (.str [46])] h1) (fun v61 h62 =>
 rt false base v61 h62)
 (fun v61 h62 => pn false base v61 h62))
 (bnd (oFieldPtr v0 2) fun v63 =>
 bnd (oLoad false 1 h1 v63) fun v64 =>
 bcall (E n_teller_numbers [v64, (.str [45])] h1) (fun v65 h66 =>
 rt false base v65 h66)
 (fun v65 h66 => pn false base v65 h66))))))) := by kernel_rfl
theorem teller_text_E (t0 : V) (H : Heap) : E n_teller_text [t0] H = teller_text H.length t0 H := (EV_at Tryd.func26 (by kernel_rfl) (by kernel_rfl) (by kernel_rfl)).trans (by kernel_rfl)

def ref03_blank_c : Code := bodyOf Tryd.f28
def ref03_blank_ks : Ks := []
def ref03_blank_e (base : Nat) : KC (Out × Heap) := xEnd Tryd.prog D false base 9 Tryd.f28.results.toList
def ref03_blank_C (base : Nat) (c : Code) (k : KC (Out × Heap)) (t : Ts) (H : Heap) (d : Ds) : Option (Out × Heap) := xC Tryd.prog base false ref03_blank_ks E 9 c k t H d
def ref03_blank (base : Nat) (t0 : V) (H : Heap) : Option (Out × Heap) := ref03_blank_C base ref03_blank_c (ref03_blank_e base) [(0, t0)] H []
theorem ref03_blank_eq (base : Nat) (t0 : V) (H : Heap) : ref03_blank base t0 H =
 bnd (oBin .eql 6 t0 (.int .i64 32)) fun v0 =>
 bnd (gua v0 false (oMove t0) (some (.tup []))) fun v1 =>
 bnd (gua v0 false (oBin .eql 6 v1 (.int .i64 9)) (some (.tup []))) fun v2 =>
 bnd (oPick v0 (.bool true) v2) fun v3 =>
 rt false base v3 H := by kernel_rfl
theorem ref03_blank_E (t0 : V) (H : Heap) : E n_ref03_blank [t0] H = ref03_blank H.length t0 H := (EV_at Tryd.func28 (by kernel_rfl) (by kernel_rfl) (by kernel_rfl)).trans (by kernel_rfl)

def ref03_reader_at_c : Code := bodyOf Tryd.f29
def ref03_reader_at_ks : Ks := []
def ref03_reader_at_e (base : Nat) : KC (Out × Heap) := xEnd Tryd.prog D false base 29 Tryd.f29.results.toList
def ref03_reader_at_C (base : Nat) (c : Code) (k : KC (Out × Heap)) (t : Ts) (H : Heap) (d : Ds) : Option (Out × Heap) := xC Tryd.prog base false ref03_reader_at_ks E 29 c k t H d
def ref03_reader_at (base : Nat) (t0 t1 : V) (H : Heap) : Option (Out × Heap) := ref03_reader_at_C base ref03_reader_at_c (ref03_reader_at_e base) [(0, t0), (1, t1)] H []
theorem ref03_reader_at_eq (base : Nat) (t0 t1 : V) (H : Heap) : ref03_reader_at base t0 t1 H =
 bnd (oNil t0) fun v0 =>
 bnd (oFieldPtr v0 1) fun v1 =>
 bnd (oLoad false 1 H v1) fun v2 =>
 bnd (oBin .add 6 v2 t1) fun v3 =>
 bnd (oNil t0) fun v4 =>
 bnd (oFieldPtr v4 0) fun v5 =>
 bnd (oLoad false 1 H v5) fun v6 =>
 bnd (oLenStr v6) fun v7 =>
 bnd (oBin .geq 6 v3 v7) fun v8 =>
 cnd v8
 (rt false base (.int .i64 (-1)) H)
 (bnd (oNil t0) fun v9 =>
 bnd (oFieldPtr v9 0) fun v10 =>
 bnd (oLoad false 1 H v10) fun v11 =>
 bnd (oNil t0) fun v12 =>
 bnd (oFieldPtr v12 1) fun v13 =>
 bnd (oLoad false 1 H v13) fun v14 =>
 bnd (oBin .add 6 v14 t1) fun v15 =>
 bnd (oIndexStr v11 v15) fun v16 =>
 bnd (oIntTo .i64 v16) fun v17 =>
 rt false base v17 H) := by kernel_rfl
theorem ref03_reader_at_E (t0 t1 : V) (H : Heap) : E n_ref03_reader_at [t0, t1] H = ref03_reader_at H.length t0 t1 H := (EV_at Tryd.func29 (by kernel_rfl) (by kernel_rfl) (by kernel_rfl)).trans (by kernel_rfl)

def ref03_reader_ends_c : Code := bodyOf Tryd.f30
def ref03_reader_ends_ks : Ks := [(4, [0, 3]), (6, [0, 3])]
def ref03_reader_ends_e (base : Nat) : KC (Out × Heap) := xEnd Tryd.prog D false base 52 Tryd.f30.results.toList
def ref03_reader_ends_C (base : Nat) (c : Code) (k : KC (Out × Heap)) (t : Ts) (H : Heap) (d : Ds) : Option (Out × Heap) := xC Tryd.prog base false ref03_reader_ends_ks E 52 c k t H d
def ref03_reader_ends_l1 (base : Nat) (t0 t3 : V) (H : Heap) : Option (Out × Heap) :=
iterL (fun t H d again => ref03_reader_ends_C base (cAt [1, 1, 0, 1, 0, 1, 0, 0] ref03_reader_ends_c) (loopK ref03_reader_ends_ks (cAt [1, 1, 0, 1, 0, 1, 0, 0] ref03_reader_ends_c) again ((blockK 0 ((seqK (fun _ t => ref03_reader_ends_C base (cAt [1, 1, 1] ref03_reader_ends_c) (ref03_reader_ends_e base) (trimA ref03_reader_ends_ks (cAt [1, 1, 1] ref03_reader_ends_c) t)) (ref03_reader_ends_e base)))))) t H d) [(0, t0), (3, t3)] H []
def ref03_reader_ends_j2 (base : Nat) (t0 t3 : V) (H : Heap) : Option (Out × Heap) :=
ref03_reader_ends_C base (cAt [1, 1, 1] ref03_reader_ends_c) (ref03_reader_ends_e base) [(0, t0), (3, t3)] H []
theorem ref03_reader_ends_j2_eq (base : Nat) (t0 t3 : V) (H : Heap) : ref03_reader_ends_j2 base t0 t3 H =
 bcall (E n_ref03_reader_at [t0, t3] H) (fun v21 h22 =>
 bnd (oBin .eql 6 v21 (.int .i64 10)) fun v23 =>
 cnd v23
 (bnd (oBin .add 6 t3 (.int .i64 1)) fun v24 =>
 rt false base v24 h22)
 (bcall (E n_ref03_reader_at [t0, t3] h22) (fun v25 h26 =>
 bnd (oBin .eql 6 v25 (.int .i64 13)) fun v27 =>
 bnd (gua v27 true (oMove t0) (some (.tup []))) fun v28 =>
 bnd (gua v27 true (oMove t3) (some (.tup []))) fun v29 =>
 bnd (gua v27 true (oBin .add 6 v29 (.int .i64 1)) (some (.tup []))) fun v30 =>
 bcall (gua v27 true (E n_ref03_reader_at [v28, v30] h26) (some (.ret (.tup []), h26))) (fun v31 h32 =>
 bnd (gua v27 true (oBin .eql 6 v31 (.int .i64 10)) (some (.tup []))) fun v33 =>
 bnd (oPick v27 v33 (.bool false)) fun v34 =>
 cnd v34
 (bnd (oBin .add 6 t3 (.int .i64 2)) fun v35 =>
 rt false base v35 h32)
 (bcall (E n_ref03_reader_at [t0, t3] h32) (fun v36 h37 =>
 bnd (oBin .lss 6 v36 (.int .i64 0)) fun v38 =>
 cnd v38
 (rt false base t3 h37)
 (rt false base (.int .i64 (-1)) h37))
 (fun v36 h37 => pn false base v36 h37)))
 (fun v31 h32 => pn false base v31 h32))
 (fun v25 h26 => pn false base v25 h26)))
 (fun v21 h22 => pn false base v21 h22) := by kernel_rfl
theorem ref03_reader_ends_l1_eq (base : Nat) (t0 t3 : V) (H : Heap) : ref03_reader_ends_l1 base t0 t3 H =
 bcall (E n_ref03_reader_at [t0, t3] H) (fun v3 h4 =>
 bcall (E n_ref03_blank [v3] h4) (fun v5 h6 =>
 bnd (gua v5 false (oMove t0) (some (.tup []))) fun v7 =>
 bnd (gua v5 false (oMove t3) (some (.tup []))) fun v8 =>
 bcall (gua v5 false (E n_ref03_reader_at [v7, v8] h6) (some (.ret (.tup []), h6))) (fun v9 h10 =>
 bnd (gua v5 false (oBin .gtr 6 v9 (.int .i64 32)) (some (.tup []))) fun v11 =>
 bnd (gua v5 false (oMove v11) (some (.tup []))) fun v12 =>
 bnd (gua v12 true (oMove t0) (some (.tup []))) fun v13 =>
 bnd (gua v12 true (oMove t3) (some (.tup []))) fun v14 =>
 bcall (gua v12 true (E n_ref03_reader_at [v13, v14] h10) (some (.ret (.tup []), h10))) (fun v15 h16 =>
 bnd (gua v12 true (oBin .lss 6 v15 (.int .i64 127)) (some (.tup []))) fun v17 =>
 bnd (gua v5 false (oPick v12 v17 (.bool false)) (some (.tup []))) fun v18 =>
 bnd (oPick v5 (.bool true) v18) fun v19 =>
 cnd v19
 (bnd (oBin .add 6 t3 (.int .i64 1)) fun v20 =>
 ref03_reader_ends_l1 base t0 v20 h16)
 (ref03_reader_ends_j2 base t0 t3 h16))
 (fun v15 h16 => pn false base v15 h16))
 (fun v9 h10 => pn false base v9 h10))
 (fun v5 h6 => pn false base v5 h6))
 (fun v3 h4 => pn false base v3 h4) := (loop_eq (cAt [1, 1, 0, 1, 0, 1, 0, 0] ref03_reader_ends_c) ((blockK 0 ((seqK (fun _ t => ref03_reader_ends_C base (cAt [1, 1, 1] ref03_reader_ends_c) (ref03_reader_ends_e base) (trimA ref03_reader_ends_ks (cAt [1, 1, 1] ref03_reader_ends_c) t)) (ref03_reader_ends_e base))))) _ H []).trans (by kernel_rfl)
def ref03_reader_ends (base : Nat) (t0 : V) (H : Heap) : Option (Out × Heap) := ref03_reader_ends_C base ref03_reader_ends_c (ref03_reader_ends_e base) [(0, t0)] H []
theorem ref03_reader_ends_eq (base : Nat) (t0 : V) (H : Heap) : ref03_reader_ends base t0 H =
 bcall (E n_ref03_reader_at [t0, (.int .i64 0)] H) (fun v0 h1 =>
 bnd (oBin .eql 6 v0 (.int .i64 59)) fun v2 =>
 cnd v2
 (ref03_reader_ends_l1 base t0 (.int .i64 1) h1)
 (ref03_reader_ends_j2 base t0 (.int .i64 0) h1))
 (fun v0 h1 => pn false base v0 h1) := by kernel_rfl
theorem ref03_reader_ends_E (t0 : V) (H : Heap) : E n_ref03_reader_ends [t0] H = ref03_reader_ends H.length t0 H := (EV_at Tryd.func30 (by kernel_rfl) (by kernel_rfl) (by kernel_rfl)).trans (by kernel_rfl)

def ref03_reader_rule_c : Code := bodyOf Tryd.f31
def ref03_reader_rule_ks : Ks := [(5, [0, 2, 3]), (9, [0, 2, 3]), (15, [0, 2, 3, 4])]
def ref03_reader_rule_e (base : Nat) : KC (Out × Heap) := xEnd Tryd.prog D false base 59 Tryd.f31.results.toList
def ref03_reader_rule_C (base : Nat) (c : Code) (k : KC (Out × Heap)) (t : Ts) (H : Heap) (d : Ds) : Option (Out × Heap) := xC Tryd.prog base false ref03_reader_rule_ks E 59 c k t H d
def ref03_reader_rule_j3 (base : Nat) (t0 t2 t3 t4 : V) (H : Heap) : Option (Out × Heap) :=
ref03_reader_rule_C base (cAt [1, 1, 1, 1, 1, 1, 1, 1, 1, 1, 1, 1] ref03_reader_rule_c) (ref03_reader_rule_e base) [(0, t0), (2, t2), (3, t3), (4, t4)] H []
theorem ref03_reader_rule_j3_eq (base : Nat) (t0 t2 t3 t4 : V) (H : Heap) : ref03_reader_rule_j3 base t0 t2 t3 t4 H =
 bnd (oNil t0) fun v54 =>
 bnd (oFieldPtr v54 1) fun v55 =>
 bnd (oLoad false 1 H v55) fun v56 =>
 bnd (oMax [t4, (.int .i64 0)]) fun v57 =>
 bnd (oBin .add 6 v56 v57) fun v58 =>
 bnd (oNil t0) fun v59 =>
 bnd (oFieldPtr v59 1) fun v60 =>
 beff (oStore base 1 H v60 v58) fun v61 h62 =>
 bnd (oLoad true 8 h62 t3) fun v63 =>
 beff (oStore base 8 h62 t2 v63) fun v64 h65 =>
 bnd (oLoad true 8 h65 t2) fun v66 =>
 rt false base v66 h65 := by kernel_rfl
def ref03_reader_rule_j2 (base : Nat) (t0 t2 t3 : V) (H : Heap) : Option (Out × Heap) :=
ref03_reader_rule_C base (cAt [1, 1, 1, 1, 1, 1, 1] ref03_reader_rule_c) (ref03_reader_rule_e base) [(0, t0), (2, t2), (3, t3)] H []
theorem ref03_reader_rule_j2_eq (base : Nat) (t0 t2 t3 : V) (H : Heap) : ref03_reader_rule_j2 base t0 t2 t3 H =
 bcall (E n_ref03_reader_skip [t0] H) (fun v40 h41 =>
 bcall (E n_ref03_reader_alt [t0, (.int .i64 0)] h41) (fun v42 h43 =>
 bnd (oFieldPtr t3 2) fun v44 =>
 beff (oStore base 6 h43 v44 v42) fun v45 h46 =>
 bcall (E n_ref03_reader_skip [t0] h46) (fun v47 h48 =>
 bcall (E n_ref03_reader_ends [t0] h48) (fun v49 h50 =>
 bnd (oBin .lss 6 v49 (.int .i64 0)) fun v51 =>
 cnd v51
 (bcall (E n_ref03_reader_fail [t0, (.int .i64 20)] h50) (fun v52 h53 =>
 ref03_reader_rule_j3 base t0 t2 t3 v49 h53)
 (fun v52 h53 => pn false base v52 h53))
 (ref03_reader_rule_j3 base t0 t2 t3 v49 h50))
 (fun v49 h50 => pn false base v49 h50))
 (fun v47 h48 => pn false base v47 h48))
 (fun v42 h43 => pn false base v42 h43))
 (fun v40 h41 => pn false base v40 h41) := by kernel_rfl
def ref03_reader_rule_j1 (base : Nat) (t0 t2 t3 : V) (H : Heap) : Option (Out × Heap) :=
ref03_reader_rule_C base (cAt [1, 1, 1, 1] ref03_reader_rule_c) (ref03_reader_rule_e base) [(0, t0), (2, t2), (3, t3)] H []
theorem ref03_reader_rule_j1_eq (base : Nat) (t0 t2 t3 : V) (H : Heap) : ref03_reader_rule_j1 base t0 t2 t3 H =
 bnd (oNil t0) fun v16 =>
 bnd (oFieldPtr v16 1) fun v17 =>
 bnd (oLoad false 1 H v17) fun v18 =>
 bnd (oBin .add 6 v18 (.int .i64 1)) fun v19 =>
 bnd (oNil t0) fun v20 =>
 bnd (oFieldPtr v20 1) fun v21 =>
 beff (oStore base 1 H v21 v19) fun v22 h23 =>
 bcall (E n_ref03_reader_at [t0, (.int .i64 0)] h23) (fun v24 h25 =>
 bnd (oBin .eql 6 v24 (.int .i64 47)) fun v26 =>
 bnd (oFieldPtr t3 1) fun v27 =>
 beff (oStore base 1 h25 v27 v26) fun v28 h29 =>
 bnd (oFieldPtr t3 1) fun v30 =>
 bnd (oLoad false 1 h29 v30) fun v31 =>
 cnd v31
 (bnd (oNil t0) fun v32 =>
 bnd (oFieldPtr v32 1) fun v33 =>
 bnd (oLoad false 1 h29 v33) fun v34 =>
 bnd (oBin .add 6 v34 (.int .i64 1)) fun v35 =>
 bnd (oNil t0) fun v36 =>
 bnd (oFieldPtr v36 1) fun v37 =>
 beff (oStore base 1 h29 v37 v35) fun v38 h39 =>
 ref03_reader_rule_j2 base t0 t2 t3 h39)
 (ref03_reader_rule_j2 base t0 t2 t3 h29))
 (fun v24 h25 => pn false base v24 h25) := by kernel_rfl
def ref03_reader_rule (base : Nat) (t0 : V) (H : Heap) : Option (Out × Heap) := ref03_reader_rule_C base ref03_reader_rule_c (ref03_reader_rule_e base) [(0, t0)] H []
theorem ref03_reader_rule_eq (base : Nat) (t0 : V) (H : Heap) : ref03_reader_rule base t0 H =
 beff (oVar H (.agg [(.str []), (.bool false), (.int .i64 0), (.str []), .nils, (.int .i64 0), (.int .i64 0), .nils])) fun v0 h1 =>
 bcall (E n_ref03_reader_name [t0] h1) (fun v2 h3 =>
 bnd (oBuild [(.str []), (.bool false), (.int .i64 0), (.str []), .nils, (.int .i64 0), (.int .i64 0), .nils] [(0, 1), (1, 1), (2, 6)] [(0, v2)]) fun v4 =>
 beff (oVar h3 (.agg [(.str []), (.bool false), (.int .i64 0), (.str []), .nils, (.int .i64 0), (.int .i64 0), .nils])) fun v5 h6 =>
 beff (oStore base 8 h6 v5 v4) fun v7 h8 =>
 bcall (E n_ref03_reader_skip [t0] h8) (fun v9 h10 =>
 bcall (E n_ref03_reader_at [t0, (.int .i64 0)] h10) (fun v11 h12 =>
 bnd (oBin .neq 6 v11 (.int .i64 61)) fun v13 =>
 cnd v13
 (bcall (E n_ref03_reader_fail [t0, (.int .i64 20)] h12) (fun v14 h15 =>
 ref03_reader_rule_j1 base t0 v0 v5 h15)
 (fun v14 h15 => pn false base v14 h15))
 (ref03_reader_rule_j1 base t0 v0 v5 h12))
 (fun v11 h12 => pn false base v11 h12))
 (fun v9 h10 => pn false base v9 h10))
 (fun v2 h3 => pn false base v2 h3) := by kernel_rfl
theorem ref03_reader_rule_E (t0 : V) (H : Heap) : E n_ref03_reader_rule [t0] H = ref03_reader_rule H.length t0 H := (EV_at Tryd.func31 (by kernel_rfl) (by kernel_rfl) (by kernel_rfl)).trans (by kernel_rfl)

def ref03_reader_fail_c : Code := bodyOf Tryd.f32
def ref03_reader_fail_ks : Ks := []
def ref03_reader_fail_e (base : Nat) : KC (Out × Heap) := xEnd Tryd.prog D false base 13 Tryd.f32.results.toList
def ref03_reader_fail_C (base : Nat) (c : Code) (k : KC (Out × Heap)) (t : Ts) (H : Heap) (d : Ds) : Option (Out × Heap) := xC Tryd.prog base false ref03_reader_fail_ks E 13 c k t H d
def ref03_reader_fail (base : Nat) (t0 t1 : V) (H : Heap) : Option (Out × Heap) := ref03_reader_fail_C base ref03_reader_fail_c (ref03_reader_fail_e base) [(0, t0), (1, t1)] H []
theorem ref03_reader_fail_eq (base : Nat) (t0 t1 : V) (H : Heap) : ref03_reader_fail base t0 t1 H =
 bnd (oNil t0) fun v0 =>
 bnd (oFieldPtr v0 2) fun v1 =>
 bnd (oLoad false 1 H v1) fun v2 =>
 bnd (oBin .eql 6 v2 (.int .i64 0)) fun v3 =>
 cnd v3
 (bnd (oNil t0) fun v4 =>
 bnd (oFieldPtr v4 2) fun v5 =>
 beff (oStore base 1 H v5 t1) fun v6 h7 =>
 rt false base (.tup []) h7)
 (rt false base (.tup []) H) := by kernel_rfl
theorem ref03_reader_fail_E (t0 t1 : V) (H : Heap) : E n_ref03_reader_fail [t0, t1] H = ref03_reader_fail H.length t0 t1 H := (EV_at Tryd.func32 (by kernel_rfl) (by kernel_rfl) (by kernel_rfl)).trans (by kernel_rfl)

def ref03_Same_c : Code := bodyOf Tryd.f33
def ref03_Same_ks : Ks := [(4, [2, 3, 5]), (9, [2, 3, 6])]
def ref03_Same_e (base : Nat) : KC (Out × Heap) := xEnd Tryd.prog D false base 88 Tryd.f33.results.toList
def ref03_Same_C (base : Nat) (c : Code) (k : KC (Out × Heap)) (t : Ts) (H : Heap) (d : Ds) : Option (Out × Heap) := xC Tryd.prog base false ref03_Same_ks E 88 c k t H d
def ref03_Same_l1 (base : Nat) (t2 t3 t5 : V) (H : Heap) : Option (Out × Heap) :=
iterL (fun t H d again => ref03_Same_C base (cAt [1, 1, 0, 1, 0, 0] ref03_Same_c) (loopK ref03_Same_ks (cAt [1, 1, 0, 1, 0, 0] ref03_Same_c) again ((blockK 0 ((seqK (fun _ t => ref03_Same_C base (cAt [1, 1, 1] ref03_Same_c) (ref03_Same_e base) (trimA ref03_Same_ks (cAt [1, 1, 1] ref03_Same_c) t)) (ref03_Same_e base)))))) t H d) [(2, t2), (3, t3), (5, t5)] H []
def ref03_Same_l2 (base : Nat) (t2 t3 t6 : V) (H : Heap) : Option (Out × Heap) :=
iterL (fun t H d again => ref03_Same_C base (cAt [1, 1, 1, 0, 1, 0, 0] ref03_Same_c) (loopK ref03_Same_ks (cAt [1, 1, 1, 0, 1, 0, 0] ref03_Same_c) again ((blockK 2 ((seqK (fun _ t => ref03_Same_C base (cAt [1, 1, 1, 1] ref03_Same_c) (ref03_Same_e base) (trimA ref03_Same_ks (cAt [1, 1, 1, 1] ref03_Same_c) t)) (ref03_Same_e base)))))) t H d) [(2, t2), (3, t3), (6, t6)] H []
theorem ref03_Same_l2_eq (base : Nat) (t2 t3 t6 : V) (H : Heap) : ref03_Same_l2 base t2 t3 t6 H =
 bnd (oFieldPtr t2 5) fun v57 =>
 bnd (oLoad false 1 H v57) fun v58 =>
 bnd (oLenSl v58) fun v59 =>
 bnd (oBin .lss 6 t6 v59) fun v60 =>
 cnd v60
 (bnd (oFieldPtr t2 5) fun v61 =>
 bnd (oLoad false 1 H v61) fun v62 =>
 bnd (oIndexPtr 6 v62 t6) fun v63 =>
 bnd (oLoad true 6 H v63) fun v64 =>
 bnd (oFieldPtr t3 5) fun v65 =>
 bnd (oLoad false 1 H v65) fun v66 =>
 bnd (oIndexPtr 6 v66 t6) fun v67 =>
 bnd (oLoad true 6 H v67) fun v68 =>
 bcall (E n_ref03_Same [v64, v68] H) (fun v69 h70 =>
 bnd (oUn .not v69) fun v71 =>
 cnd v71
 (rt false base (.bool false) h70)
 (bnd (oBin .add 6 t6 (.int .i64 1)) fun v72 =>
 ref03_Same_l2 base t2 t3 v72 h70))
 (fun v69 h70 => pn false base v69 h70))
 (rt false base (.bool true) H) := (loop_eq (cAt [1, 1, 1, 0, 1, 0, 0] ref03_Same_c) ((blockK 2 ((seqK (fun _ t => ref03_Same_C base (cAt [1, 1, 1, 1] ref03_Same_c) (ref03_Same_e base) (trimA ref03_Same_ks (cAt [1, 1, 1, 1] ref03_Same_c) t)) (ref03_Same_e base))))) _ H []).trans (by kernel_rfl)
theorem ref03_Same_l1_eq (base : Nat) (t2 t3 t5 : V) (H : Heap) : ref03_Same_l1 base t2 t3 t5 H =
 bnd (oFieldPtr t2 2) fun v43 =>
 bnd (oLoad false 1 H v43) fun v44 =>
 bnd (oLenSl v44) fun v45 =>
 bnd (oBin .lss 6 t5 v45) fun v46 =>
 cnd v46
 (bnd (oFieldPtr t2 2) fun v47 =>
 bnd (oLoad false 1 H v47) fun v48 =>
 bnd (oIndexPtr 1 v48 t5) fun v49 =>
 bnd (oLoad false 1 H v49) fun v50 =>
 bnd (oFieldPtr t3 2) fun v51 =>
 bnd (oLoad false 1 H v51) fun v52 =>
 bnd (oIndexPtr 1 v52 t5) fun v53 =>
 bnd (oLoad false 1 H v53) fun v54 =>
 bnd (oBin .neq 6 v50 v54) fun v55 =>
 cnd v55
 (rt false base (.bool false) H)
 (bnd (oBin .add 6 t5 (.int .i64 1)) fun v56 =>
 ref03_Same_l1 base t2 t3 v56 H))
 (ref03_Same_l2 base t2 t3 (.int .i64 0) H) := (loop_eq (cAt [1, 1, 0, 1, 0, 0] ref03_Same_c) ((blockK 0 ((seqK (fun _ t => ref03_Same_C base (cAt [1, 1, 1] ref03_Same_c) (ref03_Same_e base) (trimA ref03_Same_ks (cAt [1, 1, 1] ref03_Same_c) t)) (ref03_Same_e base))))) _ H []).trans (by kernel_rfl)
def ref03_Same (base : Nat) (t0 t1 : V) (H : Heap) : Option (Out × Heap) := ref03_Same_C base ref03_Same_c (ref03_Same_e base) [(0, t0), (1, t1)] H []
theorem ref03_Same_eq (base : Nat) (t0 t1 : V) (H : Heap) : ref03_Same base t0 t1 H =
 beff (oVar H t0) fun v0 h1 =>
 beff (oVar h1 t1) fun v2 h3 =>
 bnd (oFieldPtr v0 0) fun v4 =>
 bnd (oLoad false 1 h3 v4) fun v5 =>
 bnd (oFieldPtr v2 0) fun v6 =>
 bnd (oLoad false 1 h3 v6) fun v7 =>
 bnd (oBin .neq 6 v5 v7) fun v8 =>
 bnd (gua v8 false (oFieldPtr v0 1) (some (.tup []))) fun v9 =>
 bnd (gua v8 false (oLoad false 1 h3 v9) (some (.tup []))) fun v10 =>
 bnd (gua v8 false (oFieldPtr v2 1) (some (.tup []))) fun v11 =>
 bnd (gua v8 false (oLoad false 1 h3 v11) (some (.tup []))) fun v12 =>
 bnd (gua v8 false (oBin .neq 6 v10 v12) (some (.tup []))) fun v13 =>
 bnd (oPick v8 (.bool true) v13) fun v14 =>
 bnd (gua v14 false (oFieldPtr v0 3) (some (.tup []))) fun v15 =>
 bnd (gua v14 false (oLoad false 1 h3 v15) (some (.tup []))) fun v16 =>
 bnd (gua v14 false (oFieldPtr v2 3) (some (.tup []))) fun v17 =>
 bnd (gua v14 false (oLoad false 1 h3 v17) (some (.tup []))) fun v18 =>
 bnd (gua v14 false (oBin .neq 6 v16 v18) (some (.tup []))) fun v19 =>
 bnd (oPick v14 (.bool true) v19) fun v20 =>
 bnd (gua v20 false (oFieldPtr v0 4) (some (.tup []))) fun v21 =>
 bnd (gua v20 false (oLoad false 1 h3 v21) (some (.tup []))) fun v22 =>
 bnd (gua v20 false (oFieldPtr v2 4) (some (.tup []))) fun v23 =>
 bnd (gua v20 false (oLoad false 1 h3 v23) (some (.tup []))) fun v24 =>
 bnd (gua v20 false (oBin .neq 6 v22 v24) (some (.tup []))) fun v25 =>
 bnd (oPick v20 (.bool true) v25) fun v26 =>
 bnd (gua v26 false (oFieldPtr v0 2) (some (.tup []))) fun v27 =>
 bnd (gua v26 false (oLoad false 1 h3 v27) (some (.tup []))) fun v28 =>
 bnd (gua v26 false (oLenSl v28) (some (.tup []))) fun v29 =>
 bnd (gua v26 false (oFieldPtr v2 2) (some (.tup []))) fun v30 =>
 bnd (gua v26 false (oLoad false 1 h3 v30) (some (.tup []))) fun v31 =>
 bnd (gua v26 false (oLenSl v31) (some (.tup []))) fun v32 =>
 bnd (gua v26 false (oBin .neq 6 v29 v32) (some (.tup []))) fun v33 =>
 bnd (oPick v26 (.bool true) v33) fun v34 =>
 bnd (gua v34 false (oFieldPtr v0 5) (some (.tup []))) fun v35 =>
 bnd (gua v34 false (oLoad false 1 h3 v35) (some (.tup []))) fun v36 =>
 bnd (gua v34 false (oLenSl v36) (some (.tup []))) fun v37 =>
 bnd (gua v34 false (oFieldPtr v2 5) (some (.tup []))) fun v38 =>
 bnd (gua v34 false (oLoad false 1 h3 v38) (some (.tup []))) fun v39 =>
 bnd (gua v34 false (oLenSl v39) (some (.tup []))) fun v40 =>
 bnd (gua v34 false (oBin .neq 6 v37 v40) (some (.tup []))) fun v41 =>
 bnd (oPick v34 (.bool true) v41) fun v42 =>
 cnd v42
 (rt false base (.bool false) h3)
 (ref03_Same_l1 base v0 v2 (.int .i64 0) h3) := by kernel_rfl
theorem ref03_Same_E (t0 t1 : V) (H : Heap) : E n_ref03_Same [t0, t1] H = ref03_Same H.length t0 t1 H := (EV_at Tryd.func33 (by kernel_rfl) (by kernel_rfl) (by kernel_rfl)).trans (by kernel_rfl)

def teller_plain_c : Code := bodyOf Tryd.f35
def teller_plain_ks : Ks := [(2, [0, 1, 7, 8])]
def teller_plain_e (base : Nat) : KC (Out × Heap) := xEnd Tryd.prog D false base 18 Tryd.f35.results.toList
def teller_plain_C (base : Nat) (c : Code) (k : KC (Out × Heap)) (t : Ts) (H : Heap) (d : Ds) : Option (Out × Heap) := xC Tryd.prog base false teller_plain_ks E 18 c k t H d
def teller_plain_l1 (base : Nat) (t0 t1 t7 t8 : V) (H : Heap) : Option (Out × Heap) :=
iterL (fun t H d again => teller_plain_C base (cAt [1, 0, 1, 0, 0] teller_plain_c) (loopK teller_plain_ks (cAt [1, 0, 1, 0, 0] teller_plain_c) again ((blockK 0 ((seqK (fun _ t => teller_plain_C base (cAt [1, 1] teller_plain_c) (teller_plain_e base) (trimA teller_plain_ks (cAt [1, 1] teller_plain_c) t)) (teller_plain_e base)))))) t H d) [(0, t0), (1, t1), (7, t7), (8, t8)] H []
theorem teller_plain_l1_eq (base : Nat) (t0 t1 t7 t8 : V) (H : Heap) : teller_plain_l1 base t0 t1 t7 t8 H =
 bnd (oBin .lss 6 t8 t7) fun v1 =>
 cnd v1
 (bnd (oIndexStr t0 t8) fun v2 =>
 bcall (E n_strings_IndexByte [t1, v2] H) (fun v3 h4 =>
 bnd (oBin .lss 6 v3 (.int .i64 0)) fun v5 =>
 cnd v5
 (rt false base (.bool false) h4)
 (bnd (oBin .add 6 t8 (.int .i64 1)) fun v6 =>
 teller_plain_l1 base t0 t1 t7 v6 h4))
 (fun v3 h4 => pn false base v3 h4))
 (rt false base (.bool true) H) := (loop_eq (cAt [1, 0, 1, 0, 0] teller_plain_c) ((blockK 0 ((seqK (fun _ t => teller_plain_C base (cAt [1, 1] teller_plain_c) (teller_plain_e base) (trimA teller_plain_ks (cAt [1, 1] teller_plain_c) t)) (teller_plain_e base))))) _ H []).trans (by kernel_rfl)
def teller_plain (base : Nat) (t0 t1 : V) (H : Heap) : Option (Out × Heap) := teller_plain_C base teller_plain_c (teller_plain_e base) [(0, t0), (1, t1)] H []
theorem teller_plain_eq (base : Nat) (t0 t1 : V) (H : Heap) : teller_plain base t0 t1 H =
 bnd (oLenStr t0) fun v0 =>
 teller_plain_l1 base t0 t1 v0 (.int .i64 0) H := by kernel_rfl
theorem teller_plain_E (t0 t1 : V) (H : Heap) : E n_teller_plain [t0, t1] H = teller_plain H.length t0 t1 H := (EV_at Tryd.func35 (by kernel_rfl) (by kernel_rfl) (by kernel_rfl)).trans (by kernel_rfl)
end
end Go.Proofs.YthcjjicplodhjaaDoor
end

