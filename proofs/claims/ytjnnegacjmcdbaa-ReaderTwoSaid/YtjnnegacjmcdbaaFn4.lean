/- Fn4: a part of the proof that each law of this seat answers true at every input. No condition. -/
import Derived.Test.YtjnnegacjmcdbaaHint
import Derived.KernelRfl
set_option linter.unusedVariables false
set_option linter.unusedSimpArgs false
set_option maxRecDepth 20000
section
/- Printed: what functions do. -/
namespace Go.Proofs.Ytjnnegacjmcdbaa
open Go Go.Ev
set_option linter.unusedVariables false
noncomputable section

def ref03_reader_text_c : Code := bodyOf Try.f64
def ref03_reader_text_ks : Ks := [(4, [1, 4, 5, 6, 7]), (10, [4, 5, 6, 8]), (13, [4, 6])]
def ref03_reader_text_e (base : Nat) : KC (Out × Heap) := xEnd Try.prog D false base 54 Try.f64.results.toList
def ref03_reader_text_C (base : Nat) (c : Code) (k : KC (Out × Heap)) (t : Ts) (H : Heap) (d : Ds) : Option (Out × Heap) := xC Try.prog base false ref03_reader_text_ks E 54 c k t H d
def ref03_reader_text_l1 (base : Nat) (t1 t4 t5 t6 t7 : V) (H : Heap) : Option (Out × Heap) :=
iterL (fun t H d again => ref03_reader_text_C base (cAt [1, 1, 1, 0, 1, 0, 0] ref03_reader_text_c) (loopK ref03_reader_text_ks (cAt [1, 1, 1, 0, 1, 0, 0] ref03_reader_text_c) again ((blockK 0 ((seqK (fun _ t => ref03_reader_text_C base (cAt [1, 1, 1, 1] ref03_reader_text_c) (ref03_reader_text_e base) (trimA ref03_reader_text_ks (cAt [1, 1, 1, 1] ref03_reader_text_c) t)) (ref03_reader_text_e base)))))) t H d) [(1, t1), (4, t4), (5, t5), (6, t6), (7, t7)] H []
def ref03_reader_text_l2 (base : Nat) (t4 t5 t6 t8 : V) (H : Heap) : Option (Out × Heap) :=
iterL (fun t H d again => ref03_reader_text_C base (cAt [1, 1, 1, 1, 0, 1, 0, 1, 1, 0, 0] ref03_reader_text_c) (loopK ref03_reader_text_ks (cAt [1, 1, 1, 1, 0, 1, 0, 1, 1, 0, 0] ref03_reader_text_c) again ((blockK 2 ((seqK (fun _ t => ref03_reader_text_C base (cAt [1, 1, 1, 1, 1] ref03_reader_text_c) (ref03_reader_text_e base) (trimA ref03_reader_text_ks (cAt [1, 1, 1, 1, 1] ref03_reader_text_c) t)) (ref03_reader_text_e base)))))) t H d) [(4, t4), (5, t5), (6, t6), (8, t8)] H []
def ref03_reader_text_j3 (base : Nat) (t4 t6 : V) (H : Heap) : Option (Out × Heap) :=
ref03_reader_text_C base (cAt [1, 1, 1, 1, 1] ref03_reader_text_c) (ref03_reader_text_e base) [(4, t4), (6, t6)] H []
theorem ref03_reader_text_j3_eq (base : Nat) (t4 t6 : V) (H : Heap) : ref03_reader_text_j3 base t4 t6 H =
 bnd (oLoad true 6 H t6) fun v45 =>
 beff (oStore base 6 H t4 v45) fun v46 h47 =>
 bnd (oLoad true 6 h47 t4) fun v48 =>
 rt false base v48 h47 := by kernel_rfl
theorem ref03_reader_text_l2_eq (base : Nat) (t4 t5 t6 t8 : V) (H : Heap) : ref03_reader_text_l2 base t4 t5 t6 t8 H =
 bnd (oLenStr t5) fun v32 =>
 bnd (oBin .lss 6 t8 v32) fun v33 =>
 cnd v33
 (bnd (oFieldPtr t6 2) fun v34 =>
 bnd (oLoad false 1 H v34) fun v35 =>
 bnd (oIndexStr t5 t8) fun v36 =>
 bnd (oIntTo .i64 v36) fun v37 =>
 bnd (oLit 1 1 (.int .i64 0) [(0, v37)]) fun v38 =>
 beff (oAppend base 1 8 false v35 v38 H) fun v39 h40 =>
 bnd (oFieldPtr t6 2) fun v41 =>
 beff (oStore base 1 h40 v41 v39) fun v42 h43 =>
 bnd (oBin .add 6 t8 (.int .i64 1)) fun v44 =>
 ref03_reader_text_l2 base t4 t5 t6 v44 h43)
 (ref03_reader_text_j3 base t4 t6 H) := (loop_eq (cAt [1, 1, 1, 1, 0, 1, 0, 1, 1, 0, 0] ref03_reader_text_c) ((blockK 2 ((seqK (fun _ t => ref03_reader_text_C base (cAt [1, 1, 1, 1, 1] ref03_reader_text_c) (ref03_reader_text_e base) (trimA ref03_reader_text_ks (cAt [1, 1, 1, 1, 1] ref03_reader_text_c) t)) (ref03_reader_text_e base))))) _ H []).trans (by kernel_rfl)
theorem ref03_reader_text_l1_eq (base : Nat) (t1 t4 t5 t6 t7 : V) (H : Heap) : ref03_reader_text_l1 base t1 t4 t5 t6 t7 H =
 bnd (oLenStr t5) fun v9 =>
 bnd (oBin .lss 6 t7 v9) fun v10 =>
 bnd (gua v10 true (oMove t1) (some (.tup []))) fun v11 =>
 bnd (oPick v10 v11 (.bool false)) fun v12 =>
 cnd v12
 (bnd (oFieldPtr t6 1) fun v13 =>
 bnd (oLoad false 1 H v13) fun v14 =>
 bnd (oIndexStr t5 t7) fun v15 =>
 bcall (E n_ref03_lower [v15] H) (fun v16 h17 =>
 sch (sam (oLoad false 1 h17 v13) v14) (
 bnd (oLit 1 1 (.int .u8 0) [(0, v16)]) fun v18 =>
 bnd (oText h17 v18) fun v19 =>
 bnd (oBin .add 6 v14 v19) fun v20 =>
 bnd (oFieldPtr t6 1) fun v21 =>
 beff (oStore base 1 h17 v21 v20) fun v22 h23 =>
 bnd (oBin .add 6 t7 (.int .i64 1)) fun v24 =>
 ref03_reader_text_l1 base t1 t4 t5 t6 v24 h23))
 (fun v16 h17 => pn false base v16 h17))
 (bnd (oUn .not t1) fun v25 =>
 bnd (gua v25 true (oMove t5) (some (.tup []))) fun v26 =>
 bnd (gua v25 true (oBin .neq 6 v26 (.str [])) (some (.tup []))) fun v27 =>
 bnd (oPick v25 v27 (.bool false)) fun v28 =>
 cnd v28
 (bnd (oFieldPtr t6 0) fun v29 =>
 beff (oStore base 1 H v29 (.int .i64 6)) fun v30 h31 =>
 ref03_reader_text_l2 base t4 t5 t6 (.int .i64 0) h31)
 (ref03_reader_text_j3 base t4 t6 H)) := (loop_eq (cAt [1, 1, 1, 0, 1, 0, 0] ref03_reader_text_c) ((blockK 0 ((seqK (fun _ t => ref03_reader_text_C base (cAt [1, 1, 1, 1] ref03_reader_text_c) (ref03_reader_text_e base) (trimA ref03_reader_text_ks (cAt [1, 1, 1, 1] ref03_reader_text_c) t)) (ref03_reader_text_e base))))) _ H []).trans (by kernel_rfl)
def ref03_reader_text (base : Nat) (t0 t1 : V) (H : Heap) : Option (Out × Heap) := ref03_reader_text_C base ref03_reader_text_c (ref03_reader_text_e base) [(0, t0), (1, t1)] H []
theorem ref03_reader_text_eq (base : Nat) (t0 t1 : V) (H : Heap) : ref03_reader_text base t0 t1 H =
 beff (oVar H (.agg [(.int .i64 0), (.str []), .nils, (.int .i64 0), (.int .i64 0), .nils])) fun v0 h1 =>
 bcall (E n_ref03_reader_quoted [t0] h1) (fun v2 h3 =>
 bnd (oBuild [(.int .i64 0), (.str []), .nils, (.int .i64 0), (.int .i64 0), .nils] [(0, 1), (1, 1), (2, 1), (3, 1), (4, 1), (5, 1)] [(0, (.int .i64 5))]) fun v4 =>
 beff (oVar h3 (.agg [(.int .i64 0), (.str []), .nils, (.int .i64 0), (.int .i64 0), .nils])) fun v5 h6 =>
 beff (oStore base 6 h6 v5 v4) fun v7 h8 =>
 ref03_reader_text_l1 base t1 v0 v2 v5 (.int .i64 0) h8)
 (fun v2 h3 => pn false base v2 h3) := by kernel_rfl
theorem ref03_reader_text_E (t0 t1 : V) (H : Heap) : E n_ref03_reader_text [t0, t1] H = ref03_reader_text H.length t0 t1 H := (EV_at Try.func64 (by kernel_rfl) (by kernel_rfl) (by kernel_rfl)).trans (by kernel_rfl)

def ref03_reader_value_c : Code := bodyOf Try.f65
def ref03_reader_value_ks : Ks := [(5, [0, 2, 3]), (18, [0, 2, 4]), (27, [0, 2, 4, 5]), (32, [2, 5])]
def ref03_reader_value_e (base : Nat) : KC (Out × Heap) := xEnd Try.prog D false base 126 Try.f65.results.toList
def ref03_reader_value_C (base : Nat) (c : Code) (k : KC (Out × Heap)) (t : Ts) (H : Heap) (d : Ds) : Option (Out × Heap) := xC Try.prog base true ref03_reader_value_ks E 126 c k t H d
def ref03_reader_value_l3 (base : Nat) (t0 t2 t4 t5 : V) (H : Heap) : Option (Out × Heap) :=
iterL (fun t H d again => ref03_reader_value_C base (cAt [1, 1, 1, 1, 1, 1, 1, 1, 1, 1, 0, 0, 0] ref03_reader_value_c) (loopK ref03_reader_value_ks (cAt [1, 1, 1, 1, 1, 1, 1, 1, 1, 1, 0, 0, 0] ref03_reader_value_c) again ((blockK 1 ((seqK (fun _ t => ref03_reader_value_C base (cAt [1, 1, 1, 1, 1, 1, 1, 1, 1, 1, 1] ref03_reader_value_c) (ref03_reader_value_e base) (trimA ref03_reader_value_ks (cAt [1, 1, 1, 1, 1, 1, 1, 1, 1, 1, 1] ref03_reader_value_c) t)) (ref03_reader_value_e base)))))) t H d) [(0, t0), (2, t2), (4, t4), (5, t5)] H []
def ref03_reader_value_j4 (base : Nat) (t2 t5 : V) (H : Heap) : Option (Out × Heap) :=
ref03_reader_value_C base (cAt [1, 1, 1, 1, 1, 1, 1, 1, 1, 1, 1, 1] ref03_reader_value_c) (ref03_reader_value_e base) [(2, t2), (5, t5)] H []
theorem ref03_reader_value_j4_eq (base : Nat) (t2 t5 : V) (H : Heap) : ref03_reader_value_j4 base t2 t5 H =
 bnd (oLoad true 6 H t5) fun v112 =>
 beff (oStore base 6 H t2 v112) fun v113 h114 =>
 bnd (oLoad true 6 h114 t2) fun v115 =>
 rt false base v115 h114 := by kernel_rfl
theorem ref03_reader_value_l3_eq (base : Nat) (t0 t2 t4 t5 : V) (H : Heap) : ref03_reader_value_l3 base t0 t2 t4 t5 H =
 bnd (oFieldPtr t5 0) fun v65 =>
 bnd (oLoad false 1 H v65) fun v66 =>
 bnd (oBin .eql 6 v66 (.int .i64 6)) fun v67 =>
 bnd (gua v67 true (oMove t0) (some (.tup []))) fun v68 =>
 bcall (gua v67 true (E n_ref03_reader_at [v68, (.int .i64 0)] H) (some (.ret (.tup []), H))) (fun v69 h70 =>
 bnd (gua v67 true (oBin .eql 6 v69 (.int .i64 46)) (some (.tup []))) fun v71 =>
 bnd (oPick v67 v71 (.bool false)) fun v72 =>
 bnd (gua v72 true (oMove t0) (some (.tup []))) fun v73 =>
 bnd (gua v72 true (oNil v73) (some (.tup []))) fun v74 =>
 bnd (gua v72 true (oFieldPtr v74 2) (some (.tup []))) fun v75 =>
 bnd (gua v72 true (oLoad false 1 h70 v75) (some (.tup []))) fun v76 =>
 bnd (gua v72 true (oBin .eql 6 v76 (.int .i64 0)) (some (.tup []))) fun v77 =>
 bnd (oPick v72 v77 (.bool false)) fun v78 =>
 cnd v78
 (bnd (oNil t0) fun v79 =>
 bnd (oFieldPtr v79 1) fun v80 =>
 bnd (oLoad false 1 h70 v80) fun v81 =>
 bnd (oBin .add 6 v81 (.int .i64 1)) fun v82 =>
 bnd (oNil t0) fun v83 =>
 bnd (oFieldPtr v83 1) fun v84 =>
 beff (oStore base 1 h70 v84 v82) fun v85 h86 =>
 bnd (oFieldPtr t5 2) fun v87 =>
 bnd (oLoad false 1 h86 v87) fun v88 =>
 bcall (E n_ref03_reader_need [t0, t4] h86) (fun v89 h90 =>
 sch (sam (oLoad false 1 h90 v87) v88) (
 bnd (oLit 1 1 (.int .i64 0) [(0, v89)]) fun v91 =>
 beff (oAppend base 1 8 false v88 v91 h90) fun v92 h93 =>
 bnd (oFieldPtr t5 2) fun v94 =>
 beff (oStore base 1 h93 v94 v92) fun v95 h96 =>
 ref03_reader_value_l3 base t0 t2 t4 t5 h96))
 (fun v89 h90 => pn false base v89 h90))
 (bnd (oFieldPtr t5 0) fun v97 =>
 bnd (oLoad false 1 h70 v97) fun v98 =>
 bnd (oBin .eql 6 v98 (.int .i64 7)) fun v99 =>
 bnd (gua v99 true (oFieldPtr t5 2) (some (.tup []))) fun v100 =>
 bnd (gua v99 true (oLoad false 1 h70 v100) (some (.tup []))) fun v101 =>
 bnd (gua v99 true (oIndexPtr 1 v101 (.int .i64 0)) (some (.tup []))) fun v102 =>
 bnd (gua v99 true (oLoad false 1 h70 v102) (some (.tup []))) fun v103 =>
 bnd (gua v99 true (oFieldPtr t5 2) (some (.tup []))) fun v104 =>
 bnd (gua v99 true (oLoad false 1 h70 v104) (some (.tup []))) fun v105 =>
 bnd (gua v99 true (oIndexPtr 1 v105 (.int .i64 1)) (some (.tup []))) fun v106 =>
 bnd (gua v99 true (oLoad false 1 h70 v106) (some (.tup []))) fun v107 =>
 bnd (gua v99 true (oBin .gtr 6 v103 v107) (some (.tup []))) fun v108 =>
 bnd (oPick v99 v108 (.bool false)) fun v109 =>
 cnd v109
 (bcall (E n_ref03_reader_fail [t0, (.int .i64 20)] h70) (fun v110 h111 =>
 ref03_reader_value_j4 base t2 t5 h111)
 (fun v110 h111 => pn false base v110 h111))
 (ref03_reader_value_j4 base t2 t5 h70)))
 (fun v69 h70 => pn false base v69 h70) := (loop_eq (cAt [1, 1, 1, 1, 1, 1, 1, 1, 1, 1, 0, 0, 0] ref03_reader_value_c) ((blockK 1 ((seqK (fun _ t => ref03_reader_value_C base (cAt [1, 1, 1, 1, 1, 1, 1, 1, 1, 1, 1] ref03_reader_value_c) (ref03_reader_value_e base) (trimA ref03_reader_value_ks (cAt [1, 1, 1, 1, 1, 1, 1, 1, 1, 1, 1] ref03_reader_value_c) t)) (ref03_reader_value_e base))))) _ H []).trans (by kernel_rfl)
def ref03_reader_value_j2 (base : Nat) (t0 t2 t4 : V) (H : Heap) : Option (Out × Heap) :=
ref03_reader_value_C base (cAt [1, 1, 1, 1, 1, 1] ref03_reader_value_c) (ref03_reader_value_e base) [(0, t0), (2, t2), (4, t4)] H []
theorem ref03_reader_value_j2_eq (base : Nat) (t0 t2 t4 : V) (H : Heap) : ref03_reader_value_j2 base t0 t2 t4 H =
 bnd (oNil t0) fun v17 =>
 bnd (oFieldPtr v17 1) fun v18 =>
 bnd (oLoad false 1 H v18) fun v19 =>
 bnd (oBin .add 6 v19 (.int .i64 1)) fun v20 =>
 bnd (oNil t0) fun v21 =>
 bnd (oFieldPtr v21 1) fun v22 =>
 beff (oStore base 1 H v22 v20) fun v23 h24 =>
 bnd (oBin .eql 6 t4 (.int .i64 0)) fun v25 =>
 cnd v25
 (bcall (E n_ref03_reader_fail [t0, (.int .i64 20)] h24) (fun v26 h27 =>
 bnd (oBuild [(.int .i64 0), (.str []), .nils, (.int .i64 0), (.int .i64 0), .nils] [(0, 1), (1, 1), (2, 1), (3, 1), (4, 1), (5, 1)] []) fun v28 =>
 beff (oStore base 6 h27 t2 v28) fun v29 h30 =>
 bnd (oLoad true 6 h30 t2) fun v31 =>
 rt false base v31 h30)
 (fun v26 h27 => pn false base v26 h27))
 (bcall (E n_ref03_reader_need [t0, t4] h24) (fun v32 h33 =>
 beff (oRow 1 1 false [(.int .i64 0)] h33 [(0, v32)]) fun v34 h35 =>
 bnd (oBuild [(.int .i64 0), (.str []), .nils, (.int .i64 0), (.int .i64 0), .nils] [(0, 1), (1, 1), (2, 1), (3, 1), (4, 1), (5, 1)] [(0, (.int .i64 6)), (2, v34)]) fun v36 =>
 beff (oVar h35 (.agg [(.int .i64 0), (.str []), .nils, (.int .i64 0), (.int .i64 0), .nils])) fun v37 h38 =>
 beff (oStore base 6 h38 v37 v36) fun v39 h40 =>
 bcall (E n_ref03_reader_at [t0, (.int .i64 0)] h40) (fun v41 h42 =>
 bnd (oBin .eql 6 v41 (.int .i64 45)) fun v43 =>
 cnd v43
 (bnd (oFieldPtr v37 0) fun v44 =>
 beff (oStore base 1 h42 v44 (.int .i64 7)) fun v45 h46 =>
 bnd (oNil t0) fun v47 =>
 bnd (oFieldPtr v47 1) fun v48 =>
 bnd (oLoad false 1 h46 v48) fun v49 =>
 bnd (oBin .add 6 v49 (.int .i64 1)) fun v50 =>
 bnd (oNil t0) fun v51 =>
 bnd (oFieldPtr v51 1) fun v52 =>
 beff (oStore base 1 h46 v52 v50) fun v53 h54 =>
 bnd (oFieldPtr v37 2) fun v55 =>
 bnd (oLoad false 1 h54 v55) fun v56 =>
 bcall (E n_ref03_reader_need [t0, t4] h54) (fun v57 h58 =>
 sch (sam (oLoad false 1 h58 v55) v56) (
 bnd (oLit 1 1 (.int .i64 0) [(0, v57)]) fun v59 =>
 beff (oAppend base 1 8 false v56 v59 h58) fun v60 h61 =>
 bnd (oFieldPtr v37 2) fun v62 =>
 beff (oStore base 1 h61 v62 v60) fun v63 h64 =>
 ref03_reader_value_l3 base t0 t2 t4 v37 h64))
 (fun v57 h58 => pn false base v57 h58))
 (ref03_reader_value_l3 base t0 t2 t4 v37 h42))
 (fun v41 h42 => pn false base v41 h42))
 (fun v32 h33 => pn false base v32 h33)) := by kernel_rfl
def ref03_reader_value_j1 (base : Nat) (t0 t2 t3 : V) (H : Heap) : Option (Out × Heap) :=
ref03_reader_value_C base (cAt [1, 1, 1, 1] ref03_reader_value_c) (ref03_reader_value_e base) [(0, t0), (2, t2), (3, t3)] H []
theorem ref03_reader_value_j1_eq (base : Nat) (t0 t2 t3 : V) (H : Heap) : ref03_reader_value_j1 base t0 t2 t3 H =
 bnd (oBin .eql 6 t3 (.int .i64 98)) fun v16 =>
 cnd v16
 (ref03_reader_value_j2 base t0 t2 (.int .i64 2) H)
 (bnd (oBin .eql 6 t3 (.int .i64 100)) fun v116 =>
 cnd v116
 (ref03_reader_value_j2 base t0 t2 (.int .i64 10) H)
 (bnd (oBin .eql 6 t3 (.int .i64 120)) fun v117 =>
 cnd v117
 (ref03_reader_value_j2 base t0 t2 (.int .i64 16) H)
 (bnd (oBin .eql 6 t3 (.int .i64 105)) fun v118 =>
 cnd v118
 (cnd v118
 (bcall (E n_ref03_reader_at [t0, (.int .i64 1)] H) (fun v119 h120 =>
 bnd (oBin .eql 6 v119 (.int .i64 34)) fun v121 =>
 cnd v121
 (bnd (oNil t0) fun v122 =>
 bnd (oFieldPtr v122 1) fun v123 =>
 bnd (oLoad false 1 h120 v123) fun v124 =>
 bnd (oBin .add 6 v124 (.int .i64 1)) fun v125 =>
 bnd (oNil t0) fun v126 =>
 bnd (oFieldPtr v126 1) fun v127 =>
 beff (oStore base 1 h120 v127 v125) fun v128 h129 =>
 bnd (oBin .eql 6 t3 (.int .i64 105)) fun v130 =>
 bcall (E n_ref03_reader_text [t0, v130] h129) (fun v131 h132 =>
 beff (oStore base 6 h132 t2 v131) fun v133 h134 =>
 bnd (oLoad true 6 h134 t2) fun v135 =>
 rt false base v135 h134)
 (fun v131 h132 => pn false base v131 h132))
 (ref03_reader_value_j2 base t0 t2 (.int .i64 0) h120))
 (fun v119 h120 => pn false base v119 h120))
 (ref03_reader_value_j2 base t0 t2 (.int .i64 0) H))
 (bnd (oBin .eql 6 t3 (.int .i64 115)) fun v136 =>
 cnd v136
 (bcall (E n_ref03_reader_at [t0, (.int .i64 1)] H) (fun v137 h138 =>
 bnd (oBin .eql 6 v137 (.int .i64 34)) fun v139 =>
 cnd v139
 (bnd (oNil t0) fun v140 =>
 bnd (oFieldPtr v140 1) fun v141 =>
 bnd (oLoad false 1 h138 v141) fun v142 =>
 bnd (oBin .add 6 v142 (.int .i64 1)) fun v143 =>
 bnd (oNil t0) fun v144 =>
 bnd (oFieldPtr v144 1) fun v145 =>
 beff (oStore base 1 h138 v145 v143) fun v146 h147 =>
 bnd (oBin .eql 6 t3 (.int .i64 105)) fun v148 =>
 bcall (E n_ref03_reader_text [t0, v148] h147) (fun v149 h150 =>
 beff (oStore base 6 h150 t2 v149) fun v151 h152 =>
 bnd (oLoad true 6 h152 t2) fun v153 =>
 rt false base v153 h152)
 (fun v149 h150 => pn false base v149 h150))
 (ref03_reader_value_j2 base t0 t2 (.int .i64 0) h138))
 (fun v137 h138 => pn false base v137 h138))
 (ref03_reader_value_j2 base t0 t2 (.int .i64 0) H))))) := by kernel_rfl
def ref03_reader_value (base : Nat) (t0 : V) (H : Heap) : Option (Out × Heap) := ref03_reader_value_C base ref03_reader_value_c (ref03_reader_value_e base) [(0, t0)] H []
theorem ref03_reader_value_eq (base : Nat) (t0 : V) (H : Heap) : ref03_reader_value base t0 H =
 beff (oVar H (.agg [(.int .i64 0), (.str []), .nils, (.int .i64 0), (.int .i64 0), .nils])) fun v0 h1 =>
 bnd (oNil t0) fun v2 =>
 bnd (oFieldPtr v2 1) fun v3 =>
 bnd (oLoad false 1 h1 v3) fun v4 =>
 bnd (oBin .add 6 v4 (.int .i64 1)) fun v5 =>
 bnd (oNil t0) fun v6 =>
 bnd (oFieldPtr v6 1) fun v7 =>
 beff (oStore base 1 h1 v7 v5) fun v8 h9 =>
 bcall (E n_ref03_reader_at [t0, (.int .i64 0)] h9) (fun v10 h11 =>
 bnd (oBin .or 6 v10 (.int .i64 32)) fun v12 =>
 bcall (E n_ref03_reader_at [t0, (.int .i64 0)] h11) (fun v13 h14 =>
 bnd (oBin .lss 6 v13 (.int .i64 0)) fun v15 =>
 cnd v15
 (ref03_reader_value_j1 base t0 v0 (.int .i64 0) h14)
 (ref03_reader_value_j1 base t0 v0 v12 h14))
 (fun v13 h14 => pn false base v13 h14))
 (fun v10 h11 => pn false base v10 h11) := by kernel_rfl
theorem ref03_reader_value_E (t0 : V) (H : Heap) : E n_ref03_reader_value [t0] H = ref03_reader_value H.length t0 H := (EV_at Try.func65 (by kernel_rfl) (by kernel_rfl) (by kernel_rfl)).trans (by kernel_rfl)

def reader_digit_c : Code := bodyOf Try.f66
def reader_digit_ks : Ks := []
def reader_digit_e (base : Nat) : KC (Out × Heap) := xEnd Try.prog D false base 22 Try.f66.results.toList
def reader_digit_C (base : Nat) (c : Code) (k : KC (Out × Heap)) (t : Ts) (H : Heap) (d : Ds) : Option (Out × Heap) := xC Try.prog base false reader_digit_ks E 22 c k t H d
def reader_digit (base : Nat) (t0 : V) (H : Heap) : Option (Out × Heap) := reader_digit_C base reader_digit_c (reader_digit_e base) [(0, t0)] H []
theorem reader_digit_eq (base : Nat) (t0 : V) (H : Heap) : reader_digit base t0 H =
 bcall (E n_reader_isDigit [t0] H) (fun v0 h1 =>
 cnd v0
 (bnd (oBin .sub 6 t0 (.int .u8 48)) fun v2 =>
 bnd (oIntTo .i64 v2) fun v3 =>
 rt false base v3 h1)
 (bcall (E n_reader_isLetter [t0] h1) (fun v4 h5 =>
 bnd (gua v4 true (oMove t0) (some (.tup []))) fun v6 =>
 bnd (gua v4 true (oBin .or 6 v6 (.int .u8 32)) (some (.tup []))) fun v7 =>
 bnd (gua v4 true (oBin .leq 6 v7 (.int .u8 102)) (some (.tup []))) fun v8 =>
 bnd (oPick v4 v8 (.bool false)) fun v9 =>
 cnd v9
 (bnd (oBin .or 6 t0 (.int .u8 32)) fun v10 =>
 bnd (oIntTo .i64 v10) fun v11 =>
 bnd (oBin .sub 6 v11 (.int .i64 97)) fun v12 =>
 bnd (oBin .add 6 v12 (.int .i64 10)) fun v13 =>
 rt false base v13 h5)
 (rt false base (.int .i64 99) h5))
 (fun v4 h5 => pn false base v4 h5)))
 (fun v0 h1 => pn false base v0 h1) := by kernel_rfl
theorem reader_digit_E (t0 : V) (H : Heap) : E n_reader_digit [t0] H = reader_digit H.length t0 H := (EV_at Try.func66 (by kernel_rfl) (by kernel_rfl) (by kernel_rfl)).trans (by kernel_rfl)

def reader_reader_group_c : Code := bodyOf Try.f67
def reader_reader_group_ks : Ks := []
def reader_reader_group_e (base : Nat) : KC (Out × Heap) := xEnd Try.prog D false base 26 Try.f67.results.toList
def reader_reader_group_C (base : Nat) (c : Code) (k : KC (Out × Heap)) (t : Ts) (H : Heap) (d : Ds) : Option (Out × Heap) := xC Try.prog base false reader_reader_group_ks E 26 c k t H d
def reader_reader_group (base : Nat) (t0 t1 t2 : V) (H : Heap) : Option (Out × Heap) := reader_reader_group_C base reader_reader_group_c (reader_reader_group_e base) [(0, t0), (1, t1), (2, t2)] H []
theorem reader_reader_group_eq (base : Nat) (t0 t1 t2 : V) (H : Heap) : reader_reader_group base t0 t1 t2 H =
 beff (oVar H (.agg [(.int .i64 0), (.str []), .nils, (.int .i64 0), (.int .i64 0), .nils])) fun v0 h1 =>
 bcall (E n_reader_reader_cut [t0, (.int .i64 1)] h1) (fun v2 h3 =>
 bnd (oBin .lss 6 t2 (.int .i64 50)) fun v4 =>
 bcall (E n_reader_want [v4, (.int .i64 2)] h3) (fun v5 h6 =>
 bcall (E n_reader_reader_room [t0] h6) (fun v7 h8 =>
 bnd (oBin .add 6 t2 (.int .i64 1)) fun v9 =>
 bcall (E n_reader_reader_ways [t0, v9] h8) (fun v10 h11 =>
 beff (oVar h11 (.agg [(.int .i64 0), (.str []), .nils, (.int .i64 0), (.int .i64 0), .nils])) fun v12 h13 =>
 beff (oStore base 6 h13 v12 v10) fun v14 h15 =>
 bcall (E n_reader_reader_room [t0] h15) (fun v16 h17 =>
 bcall (E n_reader_reader_take [t0, t1] h17) (fun v18 h19 =>
 bcall (E n_reader_want [v18, (.int .i64 20)] h19) (fun v20 h21 =>
 bnd (oLoad true 6 h21 v12) fun v22 =>
 beff (oStore base 6 h21 v0 v22) fun v23 h24 =>
 bnd (oLoad true 6 h24 v0) fun v25 =>
 rt false base v25 h24)
 (fun v20 h21 => pn false base v20 h21))
 (fun v18 h19 => pn false base v18 h19))
 (fun v16 h17 => pn false base v16 h17))
 (fun v10 h11 => pn false base v10 h11))
 (fun v7 h8 => pn false base v7 h8))
 (fun v5 h6 => pn false base v5 h6))
 (fun v2 h3 => pn false base v2 h3) := by kernel_rfl
theorem reader_reader_group_E (t0 t1 t2 : V) (H : Heap) : E n_reader_reader_group [t0, t1, t2] H = reader_reader_group H.length t0 t1 t2 H := (EV_at Try.func67 (by kernel_rfl) (by kernel_rfl) (by kernel_rfl)).trans (by kernel_rfl)

def reader_fold_c : Code := bodyOf Try.f68
def reader_fold_ks : Ks := []
def reader_fold_e (base : Nat) : KC (Out × Heap) := xEnd Try.prog D false base 6 Try.f68.results.toList
def reader_fold_C (base : Nat) (c : Code) (k : KC (Out × Heap)) (t : Ts) (H : Heap) (d : Ds) : Option (Out × Heap) := xC Try.prog base false reader_fold_ks E 6 c k t H d
def reader_fold (base : Nat) (t0 : V) (H : Heap) : Option (Out × Heap) := reader_fold_C base reader_fold_c (reader_fold_e base) [(0, t0)] H []
theorem reader_fold_eq (base : Nat) (t0 : V) (H : Heap) : reader_fold base t0 H =
 beff (oVar H (.agg [(.int .i64 0), (.str []), .nils, (.int .i64 0), (.int .i64 0), .nils])) fun v0 h1 =>
 bcall (E n_reader_small [t0] h1) (fun v2 h3 =>
 bnd (oBuild [(.int .i64 0), (.str []), .nils, (.int .i64 0), (.int .i64 0), .nils] [(0, 1), (1, 1), (2, 1), (3, 1), (4, 1), (5, 1)] [(0, (.int .i64 5)), (1, v2)]) fun v4 =>
 beff (oStore base 6 h3 v0 v4) fun v5 h6 =>
 bnd (oLoad true 6 h6 v0) fun v7 =>
 rt false base v7 h6)
 (fun v2 h3 => pn false base v2 h3) := by kernel_rfl
theorem reader_fold_E (t0 : V) (H : Heap) : E n_reader_fold [t0] H = reader_fold H.length t0 H := (EV_at Try.func68 (by kernel_rfl) (by kernel_rfl) (by kernel_rfl)).trans (by kernel_rfl)

def reader_reader_quoted_c : Code := bodyOf Try.f69
def reader_reader_quoted_ks : Ks := []
def reader_reader_quoted_e (base : Nat) : KC (Out × Heap) := xEnd Try.prog D false base 17 Try.f69.results.toList
def reader_reader_quoted_C (base : Nat) (c : Code) (k : KC (Out × Heap)) (t : Ts) (H : Heap) (d : Ds) : Option (Out × Heap) := xC Try.prog base false reader_reader_quoted_ks E 17 c k t H d
def reader_reader_quoted (base : Nat) (t0 : V) (H : Heap) : Option (Out × Heap) := reader_reader_quoted_C base reader_reader_quoted_c (reader_reader_quoted_e base) [(0, t0)] H []
theorem reader_reader_quoted_eq (base : Nat) (t0 : V) (H : Heap) : reader_reader_quoted base t0 H =
 bcall (E n_reader_reader_cut [t0, (.int .i64 1)] H) (fun v0 h1 =>
 bnd (oNil t0) fun v2 =>
 bnd (oFieldPtr v2 0) fun v3 =>
 bnd (oLoad false 1 h1 v3) fun v4 =>
 bcall (E n_reader_run [v4, (.fn n_reader_reader_quoted_1 [])] h1) (fun v5 h6 =>
 bcall (E n_reader_reader_cut [t0, v5] h6) (fun v7 h8 =>
 bcall (E n_reader_reader_take [t0, (.int .u8 34)] h8) (fun v9 h10 =>
 bcall (E n_reader_want [v9, (.int .i64 20)] h10) (fun v11 h12 =>
 rt false base v7 h12)
 (fun v11 h12 => pn false base v11 h12))
 (fun v9 h10 => pn false base v9 h10))
 (fun v7 h8 => pn false base v7 h8))
 (fun v5 h6 => pn false base v5 h6))
 (fun v0 h1 => pn false base v0 h1) := by kernel_rfl
theorem reader_reader_quoted_E (t0 : V) (H : Heap) : E n_reader_reader_quoted [t0] H = reader_reader_quoted H.length t0 H := (EV_at Try.func69 (by kernel_rfl) (by kernel_rfl) (by kernel_rfl)).trans (by kernel_rfl)

def reader_reader_percent_c : Code := bodyOf Try.f70
def reader_reader_percent_ks : Ks := []
def reader_reader_percent_e (base : Nat) : KC (Out × Heap) := xEnd Try.prog D false base 69 Try.f70.results.toList
def reader_reader_percent_C (base : Nat) (c : Code) (k : KC (Out × Heap)) (t : Ts) (H : Heap) (d : Ds) : Option (Out × Heap) := xC Try.prog base false reader_reader_percent_ks E 69 c k t H d
def reader_reader_percent (base : Nat) (t0 : V) (H : Heap) : Option (Out × Heap) := reader_reader_percent_C base reader_reader_percent_c (reader_reader_percent_e base) [(0, t0)] H []
theorem reader_reader_percent_eq (base : Nat) (t0 : V) (H : Heap) : reader_reader_percent base t0 H =
 beff (oVar H (.agg [(.int .i64 0), (.str []), .nils, (.int .i64 0), (.int .i64 0), .nils])) fun v0 h1 =>
 bcall (E n_reader_reader_cut [t0, (.int .i64 1)] h1) (fun v2 h3 =>
 bnd (oNil t0) fun v4 =>
 bnd (oFieldPtr v4 0) fun v5 =>
 bnd (oLoad false 1 h3 v5) fun v6 =>
 bnd (oBin .neq 6 v6 (.str [])) fun v7 =>
 bcall (E n_reader_want [v7, (.int .i64 20)] h3) (fun v8 h9 =>
 bnd (oNil t0) fun v10 =>
 bnd (oFieldPtr v10 0) fun v11 =>
 bnd (oLoad false 1 h9 v11) fun v12 =>
 bnd (oIndexStr v12 (.int .i64 0)) fun v13 =>
 bnd (oBin .or 6 v13 (.int .u8 32)) fun v14 =>
 bnd (oNil t0) fun v15 =>
 bnd (oFieldPtr v15 0) fun v16 =>
 bnd (oLoad false 1 h9 v16) fun v17 =>
 bnd (oSliceStr v17 (some (.int .i64 1)) none none) fun v18 =>
 bcall (E n_strings_HasPrefix [v18, (.str [34])] h9) (fun v19 h20 =>
 beff (oMap h20) fun v21 h22 =>
 beff (oUpdate base 0 h22 v21 (.int .u8 98) (.int .i64 2)) fun v23 h24 =>
 beff (oUpdate base 0 h24 v21 (.int .u8 100) (.int .i64 10)) fun v25 h26 =>
 beff (oUpdate base 0 h26 v21 (.int .u8 120) (.int .i64 16)) fun v27 h28 =>
 bnd (oLookup 0 (.int .i64 0) h28 v21 v14) fun v29 =>
 bnd (oNil t0) fun v30 =>
 bnd (oFieldPtr v30 0) fun v31 =>
 bnd (oLoad false 1 h28 v31) fun v32 =>
 bnd (oIndexStr v32 (.int .i64 0)) fun v33 =>
 bcall (E n_reader_isLetter [v33] h28) (fun v34 h35 =>
 bnd (gua v34 true (oMove v29) (some (.tup []))) fun v36 =>
 bnd (gua v34 true (oBin .gtr 6 v36 (.int .i64 0)) (some (.tup []))) fun v37 =>
 bnd (gua v34 true (oMove v37) (some (.tup []))) fun v38 =>
 bnd (gua v38 false (oMove v19) (some (.tup []))) fun v39 =>
 bnd (gua v38 false (oMove v39) (some (.tup []))) fun v40 =>
 bnd (gua v40 true (oMove v14) (some (.tup []))) fun v41 =>
 bnd (gua v40 true (oBin .eql 6 v41 (.int .u8 105)) (some (.tup []))) fun v42 =>
 bnd (gua v40 true (oMove v42) (some (.tup []))) fun v43 =>
 bnd (gua v43 false (oMove v14) (some (.tup []))) fun v44 =>
 bnd (gua v43 false (oBin .eql 6 v44 (.int .u8 115)) (some (.tup []))) fun v45 =>
 bnd (gua v40 true (oPick v43 (.bool true) v45) (some (.tup []))) fun v46 =>
 bnd (gua v38 false (oPick v40 v46 (.bool false)) (some (.tup []))) fun v47 =>
 bnd (gua v34 true (oPick v38 (.bool true) v47) (some (.tup []))) fun v48 =>
 bnd (oPick v34 v48 (.bool false)) fun v49 =>
 bcall (E n_reader_want [v49, (.int .i64 20)] h35) (fun v50 h51 =>
 bcall (E n_reader_reader_cut [t0, (.int .i64 1)] h51) (fun v52 h53 =>
 bnd (oBin .gtr 6 v29 (.int .i64 0)) fun v54 =>
 cnd v54
 (bcall (E n_reader_reader_values [t0, v29] h53) (fun v55 h56 =>
 beff (oStore base 6 h56 v0 v55) fun v57 h58 =>
 bnd (oLoad true 6 h58 v0) fun v59 =>
 rt false base v59 h58)
 (fun v55 h56 => pn false base v55 h56))
 (bnd (oBin .eql 6 v14 (.int .u8 105)) fun v60 =>
 cnd v60
 (bcall (E n_reader_reader_quoted [t0] h53) (fun v61 h62 =>
 bcall (E n_reader_fold [v61] h62) (fun v63 h64 =>
 beff (oStore base 6 h64 v0 v63) fun v65 h66 =>
 bnd (oLoad true 6 h66 v0) fun v67 =>
 rt false base v67 h66)
 (fun v63 h64 => pn false base v63 h64))
 (fun v61 h62 => pn false base v61 h62))
 (bcall (E n_reader_reader_quoted [t0] h53) (fun v68 h69 =>
 bcall (E n_reader_exact [v68] h69) (fun v70 h71 =>
 beff (oStore base 6 h71 v0 v70) fun v72 h73 =>
 bnd (oLoad true 6 h73 v0) fun v74 =>
 rt false base v74 h73)
 (fun v70 h71 => pn false base v70 h71))
 (fun v68 h69 => pn false base v68 h69))))
 (fun v52 h53 => pn false base v52 h53))
 (fun v50 h51 => pn false base v50 h51))
 (fun v34 h35 => pn false base v34 h35))
 (fun v19 h20 => pn false base v19 h20))
 (fun v8 h9 => pn false base v8 h9))
 (fun v2 h3 => pn false base v2 h3) := by kernel_rfl
theorem reader_reader_percent_E (t0 : V) (H : Heap) : E n_reader_reader_percent [t0] H = reader_reader_percent H.length t0 H := (EV_at Try.func70 (by kernel_rfl) (by kernel_rfl) (by kernel_rfl)).trans (by kernel_rfl)

def internal_stringslite_IndexByte_c : Code := bodyOf Try.f71
def internal_stringslite_IndexByte_ks : Ks := []
def internal_stringslite_IndexByte_e (base : Nat) : KC (Out × Heap) := xEnd Try.prog D false base 8 Try.f71.results.toList
def internal_stringslite_IndexByte_C (base : Nat) (c : Code) (k : KC (Out × Heap)) (t : Ts) (H : Heap) (d : Ds) : Option (Out × Heap) := xC Try.prog base false internal_stringslite_IndexByte_ks E 8 c k t H d
def internal_stringslite_IndexByte (base : Nat) (t0 t1 : V) (H : Heap) : Option (Out × Heap) := internal_stringslite_IndexByte_C base internal_stringslite_IndexByte_c (internal_stringslite_IndexByte_e base) [(0, t0), (1, t1)] H []
theorem internal_stringslite_IndexByte_eq (base : Nat) (t0 t1 : V) (H : Heap) : internal_stringslite_IndexByte base t0 t1 H =
 bcall (E n_internal_bytealg_IndexByteString [t0, t1] H) (fun v0 h1 =>
 rt false base v0 h1)
 (fun v0 h1 => pn false base v0 h1) := by kernel_rfl
theorem internal_stringslite_IndexByte_E (t0 t1 : V) (H : Heap) : E n_internal_stringslite_IndexByte [t0, t1] H = internal_stringslite_IndexByte H.length t0 t1 H := (EV_at Try.func71 (by kernel_rfl) (by kernel_rfl) (by kernel_rfl)).trans (by kernel_rfl)

def ref03_reader_quoted_c : Code := bodyOf Try.f72
def ref03_reader_quoted_ks : Ks := [(3, [0, 3]), (8, [0, 3])]
def ref03_reader_quoted_e (base : Nat) : KC (Out × Heap) := xEnd Try.prog D false base 60 Try.f72.results.toList
def ref03_reader_quoted_C (base : Nat) (c : Code) (k : KC (Out × Heap)) (t : Ts) (H : Heap) (d : Ds) : Option (Out × Heap) := xC Try.prog base false ref03_reader_quoted_ks E 60 c k t H d
def ref03_reader_quoted_l1 (base : Nat) (t0 t3 : V) (H : Heap) : Option (Out × Heap) :=
iterL (fun t H d again => ref03_reader_quoted_C base (cAt [1, 1, 1, 0, 0, 0] ref03_reader_quoted_c) (loopK ref03_reader_quoted_ks (cAt [1, 1, 1, 0, 0, 0] ref03_reader_quoted_c) again ((blockK 0 ((seqK (fun _ t => ref03_reader_quoted_C base (cAt [1, 1, 1, 1] ref03_reader_quoted_c) (ref03_reader_quoted_e base) (trimA ref03_reader_quoted_ks (cAt [1, 1, 1, 1] ref03_reader_quoted_c) t)) (ref03_reader_quoted_e base)))))) t H d) [(0, t0), (3, t3)] H []
def ref03_reader_quoted_j2 (base : Nat) (t0 t3 : V) (H : Heap) : Option (Out × Heap) :=
ref03_reader_quoted_C base (cAt [1, 1, 1, 1, 1] ref03_reader_quoted_c) (ref03_reader_quoted_e base) [(0, t0), (3, t3)] H []
theorem ref03_reader_quoted_j2_eq (base : Nat) (t0 t3 : V) (H : Heap) : ref03_reader_quoted_j2 base t0 t3 H =
 bnd (oNil t0) fun v46 =>
 bnd (oFieldPtr v46 1) fun v47 =>
 bnd (oLoad false 1 H v47) fun v48 =>
 bnd (oBin .add 6 v48 (.int .i64 1)) fun v49 =>
 bnd (oNil t0) fun v50 =>
 bnd (oFieldPtr v50 1) fun v51 =>
 beff (oStore base 1 H v51 v49) fun v52 h53 =>
 rt false base t3 h53 := by kernel_rfl
theorem ref03_reader_quoted_l1_eq (base : Nat) (t0 t3 : V) (H : Heap) : ref03_reader_quoted_l1 base t0 t3 H =
 bcall (E n_ref03_reader_at [t0, (.int .i64 0)] H) (fun v8 h9 =>
 bnd (oBin .geq 6 v8 (.int .i64 32)) fun v10 =>
 bnd (gua v10 true (oMove t0) (some (.tup []))) fun v11 =>
 bcall (gua v10 true (E n_ref03_reader_at [v11, (.int .i64 0)] h9) (some (.ret (.tup []), h9))) (fun v12 h13 =>
 bnd (gua v10 true (oBin .lss 6 v12 (.int .i64 127)) (some (.tup []))) fun v14 =>
 bnd (oPick v10 v14 (.bool false)) fun v15 =>
 bnd (gua v15 true (oMove t0) (some (.tup []))) fun v16 =>
 bcall (gua v15 true (E n_ref03_reader_at [v16, (.int .i64 0)] h13) (some (.ret (.tup []), h13))) (fun v17 h18 =>
 bnd (gua v15 true (oBin .neq 6 v17 (.int .i64 34)) (some (.tup []))) fun v19 =>
 bnd (oPick v15 v19 (.bool false)) fun v20 =>
 cnd v20
 (bnd (oNil t0) fun v21 =>
 bnd (oFieldPtr v21 0) fun v22 =>
 bnd (oLoad false 1 h18 v22) fun v23 =>
 bnd (oNil t0) fun v24 =>
 bnd (oFieldPtr v24 1) fun v25 =>
 bnd (oLoad false 1 h18 v25) fun v26 =>
 bnd (oNil t0) fun v27 =>
 bnd (oFieldPtr v27 1) fun v28 =>
 bnd (oLoad false 1 h18 v28) fun v29 =>
 bnd (oBin .add 6 v29 (.int .i64 1)) fun v30 =>
 bnd (oSliceStr v23 (some v26) (some v30) none) fun v31 =>
 bnd (oBin .add 6 t3 v31) fun v32 =>
 bnd (oNil t0) fun v33 =>
 bnd (oFieldPtr v33 1) fun v34 =>
 bnd (oLoad false 1 h18 v34) fun v35 =>
 bnd (oBin .add 6 v35 (.int .i64 1)) fun v36 =>
 bnd (oNil t0) fun v37 =>
 bnd (oFieldPtr v37 1) fun v38 =>
 beff (oStore base 1 h18 v38 v36) fun v39 h40 =>
 ref03_reader_quoted_l1 base t0 v32 h40)
 (bcall (E n_ref03_reader_at [t0, (.int .i64 0)] h18) (fun v41 h42 =>
 bnd (oBin .neq 6 v41 (.int .i64 34)) fun v43 =>
 cnd v43
 (bcall (E n_ref03_reader_fail [t0, (.int .i64 20)] h42) (fun v44 h45 =>
 ref03_reader_quoted_j2 base t0 t3 h45)
 (fun v44 h45 => pn false base v44 h45))
 (ref03_reader_quoted_j2 base t0 t3 h42))
 (fun v41 h42 => pn false base v41 h42)))
 (fun v17 h18 => pn false base v17 h18))
 (fun v12 h13 => pn false base v12 h13))
 (fun v8 h9 => pn false base v8 h9) := (loop_eq (cAt [1, 1, 1, 0, 0, 0] ref03_reader_quoted_c) ((blockK 0 ((seqK (fun _ t => ref03_reader_quoted_C base (cAt [1, 1, 1, 1] ref03_reader_quoted_c) (ref03_reader_quoted_e base) (trimA ref03_reader_quoted_ks (cAt [1, 1, 1, 1] ref03_reader_quoted_c) t)) (ref03_reader_quoted_e base))))) _ H []).trans (by kernel_rfl)
def ref03_reader_quoted (base : Nat) (t0 : V) (H : Heap) : Option (Out × Heap) := ref03_reader_quoted_C base ref03_reader_quoted_c (ref03_reader_quoted_e base) [(0, t0)] H []
theorem ref03_reader_quoted_eq (base : Nat) (t0 : V) (H : Heap) : ref03_reader_quoted base t0 H =
 bnd (oNil t0) fun v0 =>
 bnd (oFieldPtr v0 1) fun v1 =>
 bnd (oLoad false 1 H v1) fun v2 =>
 bnd (oBin .add 6 v2 (.int .i64 1)) fun v3 =>
 bnd (oNil t0) fun v4 =>
 bnd (oFieldPtr v4 1) fun v5 =>
 beff (oStore base 1 H v5 v3) fun v6 h7 =>
 ref03_reader_quoted_l1 base t0 (.str []) h7 := by kernel_rfl
theorem ref03_reader_quoted_E (t0 : V) (H : Heap) : E n_ref03_reader_quoted [t0] H = ref03_reader_quoted H.length t0 H := (EV_at Try.func72 (by kernel_rfl) (by kernel_rfl) (by kernel_rfl)).trans (by kernel_rfl)

def ref03_reader_need_c : Code := bodyOf Try.f73
def ref03_reader_need_ks : Ks := [(4, [5])]
def ref03_reader_need_e (base : Nat) : KC (Out × Heap) := xEnd Try.prog D false base 14 Try.f73.results.toList
def ref03_reader_need_C (base : Nat) (c : Code) (k : KC (Out × Heap)) (t : Ts) (H : Heap) (d : Ds) : Option (Out × Heap) := xC Try.prog base false ref03_reader_need_ks E 14 c k t H d
def ref03_reader_need_j1 (base : Nat) (t5 : V) (H : Heap) : Option (Out × Heap) :=
ref03_reader_need_C base (cAt [1, 1, 1] ref03_reader_need_c) (ref03_reader_need_e base) [(5, t5)] H []
theorem ref03_reader_need_j1_eq (base : Nat) (t5 : V) (H : Heap) : ref03_reader_need_j1 base t5 H =
 rt false base t5 H := by kernel_rfl
def ref03_reader_need (base : Nat) (t0 t1 : V) (H : Heap) : Option (Out × Heap) := ref03_reader_need_C base ref03_reader_need_c (ref03_reader_need_e base) [(0, t0), (1, t1)] H []
theorem ref03_reader_need_eq (base : Nat) (t0 t1 : V) (H : Heap) : ref03_reader_need base t0 t1 H =
 bcall (E n_ref03_reader_number [t0, t1, (.int .i64 1114111)] H) (fun v0 h1 =>
 bnd (oBin .lss 6 v0 (.int .i64 0)) fun v2 =>
 cnd v2
 (bcall (E n_ref03_reader_fail [t0, (.int .i64 20)] h1) (fun v3 h4 =>
 ref03_reader_need_j1 base v0 h4)
 (fun v3 h4 => pn false base v3 h4))
 (ref03_reader_need_j1 base v0 h1))
 (fun v0 h1 => pn false base v0 h1) := by kernel_rfl
theorem ref03_reader_need_E (t0 t1 : V) (H : Heap) : E n_ref03_reader_need [t0, t1] H = ref03_reader_need H.length t0 t1 H := (EV_at Try.func73 (by kernel_rfl) (by kernel_rfl) (by kernel_rfl)).trans (by kernel_rfl)

def reader_reader_quoted_1_c : Code := bodyOf Try.f74
def reader_reader_quoted_1_ks : Ks := []
def reader_reader_quoted_1_e (base : Nat) : KC (Out × Heap) := xEnd Try.prog D false base 13 Try.f74.results.toList
def reader_reader_quoted_1_C (base : Nat) (c : Code) (k : KC (Out × Heap)) (t : Ts) (H : Heap) (d : Ds) : Option (Out × Heap) := xC Try.prog base false reader_reader_quoted_1_ks E 13 c k t H d
def reader_reader_quoted_1 (base : Nat) (t0 : V) (H : Heap) : Option (Out × Heap) := reader_reader_quoted_1_C base reader_reader_quoted_1_c (reader_reader_quoted_1_e base) [(0, t0)] H []
theorem reader_reader_quoted_1_eq (base : Nat) (t0 : V) (H : Heap) : reader_reader_quoted_1 base t0 H =
 bnd (oBin .geq 6 t0 (.int .u8 32)) fun v0 =>
 bnd (gua v0 true (oMove t0) (some (.tup []))) fun v1 =>
 bnd (gua v0 true (oBin .leq 6 v1 (.int .u8 126)) (some (.tup []))) fun v2 =>
 bnd (oPick v0 v2 (.bool false)) fun v3 =>
 bnd (gua v3 true (oMove t0) (some (.tup []))) fun v4 =>
 bnd (gua v3 true (oBin .neq 6 v4 (.int .u8 34)) (some (.tup []))) fun v5 =>
 bnd (oPick v3 v5 (.bool false)) fun v6 =>
 rt false base v6 H := by kernel_rfl
theorem reader_reader_quoted_1_E (t0 : V) (H : Heap) : E n_reader_reader_quoted_1 [t0] H = reader_reader_quoted_1 H.length t0 H := (EV_at Try.func74 (by kernel_rfl) (by kernel_rfl) (by kernel_rfl)).trans (by kernel_rfl)

def reader_reader_values_c : Code := bodyOf Try.f75
def reader_reader_values_ks : Ks := [(7, [0, 1, 4, 5])]
def reader_reader_values_e (base : Nat) : KC (Out × Heap) := xEnd Try.prog D false base 44 Try.f75.results.toList
def reader_reader_values_C (base : Nat) (c : Code) (k : KC (Out × Heap)) (t : Ts) (H : Heap) (d : Ds) : Option (Out × Heap) := xC Try.prog base true reader_reader_values_ks E 44 c k t H d
def reader_reader_values_l1 (base : Nat) (t0 t1 t4 t5 : V) (H : Heap) : Option (Out × Heap) :=
iterL (fun t H d again => reader_reader_values_C base (cAt [1, 1, 1, 0, 0, 0] reader_reader_values_c) (loopK reader_reader_values_ks (cAt [1, 1, 1, 0, 0, 0] reader_reader_values_c) again ((blockK 0 ((seqK (fun _ t => reader_reader_values_C base (cAt [1, 1, 1, 1] reader_reader_values_c) (reader_reader_values_e base) (trimA reader_reader_values_ks (cAt [1, 1, 1, 1] reader_reader_values_c) t)) (reader_reader_values_e base)))))) t H d) [(0, t0), (1, t1), (4, t4), (5, t5)] H []
theorem reader_reader_values_l1_eq (base : Nat) (t0 t1 t4 t5 : V) (H : Heap) : reader_reader_values_l1 base t0 t1 t4 t5 H =
 bcall (E n_reader_reader_take [t0, (.int .u8 46)] H) (fun v41 h42 =>
 cnd v41
 (bnd (oFieldPtr t5 2) fun v43 =>
 bnd (oLoad false 1 h42 v43) fun v44 =>
 bcall (E n_reader_reader_value [t0, t1] h42) (fun v45 h46 =>
 sch (sam (oLoad false 1 h46 v43) v44) (
 bnd (oLit 1 1 (.int .i64 0) [(0, v45)]) fun v47 =>
 beff (oAppend base 1 8 false v44 v47 h46) fun v48 h49 =>
 bnd (oFieldPtr t5 2) fun v50 =>
 beff (oStore base 1 h49 v50 v48) fun v51 h52 =>
 reader_reader_values_l1 base t0 t1 t4 t5 h52))
 (fun v45 h46 => pn false base v45 h46))
 (bnd (oLoad true 6 h42 t5) fun v53 =>
 beff (oStore base 6 h42 t4 v53) fun v54 h55 =>
 bnd (oLoad true 6 h55 t4) fun v56 =>
 rt false base v56 h55))
 (fun v41 h42 => pn false base v41 h42) := (loop_eq (cAt [1, 1, 1, 0, 0, 0] reader_reader_values_c) ((blockK 0 ((seqK (fun _ t => reader_reader_values_C base (cAt [1, 1, 1, 1] reader_reader_values_c) (reader_reader_values_e base) (trimA reader_reader_values_ks (cAt [1, 1, 1, 1] reader_reader_values_c) t)) (reader_reader_values_e base))))) _ H []).trans (by kernel_rfl)
def reader_reader_values (base : Nat) (t0 t1 : V) (H : Heap) : Option (Out × Heap) := reader_reader_values_C base reader_reader_values_c (reader_reader_values_e base) [(0, t0), (1, t1)] H []
theorem reader_reader_values_eq (base : Nat) (t0 t1 : V) (H : Heap) : reader_reader_values base t0 t1 H =
 beff (oVar H (.agg [(.int .i64 0), (.str []), .nils, (.int .i64 0), (.int .i64 0), .nils])) fun v0 h1 =>
 bcall (E n_reader_reader_value [t0, t1] h1) (fun v2 h3 =>
 beff (oRow 1 1 false [(.int .i64 0)] h3 [(0, v2)]) fun v4 h5 =>
 bnd (oBuild [(.int .i64 0), (.str []), .nils, (.int .i64 0), (.int .i64 0), .nils] [(0, 1), (1, 1), (2, 1), (3, 1), (4, 1), (5, 1)] [(0, (.int .i64 6)), (2, v4)]) fun v6 =>
 beff (oVar h5 (.agg [(.int .i64 0), (.str []), .nils, (.int .i64 0), (.int .i64 0), .nils])) fun v7 h8 =>
 beff (oStore base 6 h8 v7 v6) fun v9 h10 =>
 bcall (E n_reader_reader_take [t0, (.int .u8 45)] h10) (fun v11 h12 =>
 cnd v11
 (bnd (oFieldPtr v7 0) fun v13 =>
 beff (oStore base 1 h12 v13 (.int .i64 7)) fun v14 h15 =>
 bnd (oFieldPtr v7 2) fun v16 =>
 bnd (oLoad false 1 h15 v16) fun v17 =>
 bcall (E n_reader_reader_value [t0, t1] h15) (fun v18 h19 =>
 sch (sam (oLoad false 1 h19 v16) v17) (
 bnd (oLit 1 1 (.int .i64 0) [(0, v18)]) fun v20 =>
 beff (oAppend base 1 8 false v17 v20 h19) fun v21 h22 =>
 bnd (oFieldPtr v7 2) fun v23 =>
 beff (oStore base 1 h22 v23 v21) fun v24 h25 =>
 bnd (oFieldPtr v7 2) fun v26 =>
 bnd (oLoad false 1 h25 v26) fun v27 =>
 bnd (oIndexPtr 1 v27 (.int .i64 0)) fun v28 =>
 bnd (oLoad false 1 h25 v28) fun v29 =>
 bnd (oFieldPtr v7 2) fun v30 =>
 bnd (oLoad false 1 h25 v30) fun v31 =>
 bnd (oIndexPtr 1 v31 (.int .i64 1)) fun v32 =>
 bnd (oLoad false 1 h25 v32) fun v33 =>
 bnd (oBin .leq 6 v29 v33) fun v34 =>
 bcall (E n_reader_want [v34, (.int .i64 20)] h25) (fun v35 h36 =>
 bnd (oLoad true 6 h36 v7) fun v37 =>
 beff (oStore base 6 h36 v0 v37) fun v38 h39 =>
 bnd (oLoad true 6 h39 v0) fun v40 =>
 rt false base v40 h39)
 (fun v35 h36 => pn false base v35 h36)))
 (fun v18 h19 => pn false base v18 h19))
 (reader_reader_values_l1 base t0 t1 v0 v7 h12))
 (fun v11 h12 => pn false base v11 h12))
 (fun v2 h3 => pn false base v2 h3) := by kernel_rfl
theorem reader_reader_values_E (t0 t1 : V) (H : Heap) : E n_reader_reader_values [t0, t1] H = reader_reader_values H.length t0 t1 H := (EV_at Try.func75 (by kernel_rfl) (by kernel_rfl) (by kernel_rfl)).trans (by kernel_rfl)

def reader_exact_c : Code := bodyOf Try.f76
def reader_exact_ks : Ks := [(5, [0, 2, 3, 11, 12])]
def reader_exact_e (base : Nat) : KC (Out × Heap) := xEnd Try.prog D false base 26 Try.f76.results.toList
def reader_exact_C (base : Nat) (c : Code) (k : KC (Out × Heap)) (t : Ts) (H : Heap) (d : Ds) : Option (Out × Heap) := xC Try.prog base false reader_exact_ks E 26 c k t H d
def reader_exact_l1 (base : Nat) (t0 t2 t3 t11 t12 : V) (H : Heap) : Option (Out × Heap) :=
iterL (fun t H d again => reader_exact_C base (cAt [1, 1, 1, 0, 1, 0, 0] reader_exact_c) (loopK reader_exact_ks (cAt [1, 1, 1, 0, 1, 0, 0] reader_exact_c) again ((blockK 0 ((seqK (fun _ t => reader_exact_C base (cAt [1, 1, 1, 1] reader_exact_c) (reader_exact_e base) (trimA reader_exact_ks (cAt [1, 1, 1, 1] reader_exact_c) t)) (reader_exact_e base)))))) t H d) [(0, t0), (2, t2), (3, t3), (11, t11), (12, t12)] H []
theorem reader_exact_l1_eq (base : Nat) (t0 t2 t3 t11 t12 : V) (H : Heap) : reader_exact_l1 base t0 t2 t3 t11 t12 H =
 bnd (oBin .lss 6 t12 t11) fun v14 =>
 cnd v14
 (bnd (oFieldPtr t3 2) fun v15 =>
 bnd (oLoad false 1 H v15) fun v16 =>
 bnd (oIndexStr t0 t12) fun v17 =>
 bnd (oIntTo .i64 v17) fun v18 =>
 bnd (oLit 1 1 (.int .i64 0) [(0, v18)]) fun v19 =>
 beff (oAppend base 1 8 false v16 v19 H) fun v20 h21 =>
 bnd (oFieldPtr t3 2) fun v22 =>
 beff (oStore base 1 h21 v22 v20) fun v23 h24 =>
 bnd (oBin .add 6 t12 (.int .i64 1)) fun v25 =>
 reader_exact_l1 base t0 t2 t3 t11 v25 h24)
 (bnd (oLoad true 6 H t3) fun v26 =>
 beff (oStore base 6 H t2 v26) fun v27 h28 =>
 bnd (oLoad true 6 h28 t2) fun v29 =>
 rt false base v29 h28) := (loop_eq (cAt [1, 1, 1, 0, 1, 0, 0] reader_exact_c) ((blockK 0 ((seqK (fun _ t => reader_exact_C base (cAt [1, 1, 1, 1] reader_exact_c) (reader_exact_e base) (trimA reader_exact_ks (cAt [1, 1, 1, 1] reader_exact_c) t)) (reader_exact_e base))))) _ H []).trans (by kernel_rfl)
def reader_exact (base : Nat) (t0 : V) (H : Heap) : Option (Out × Heap) := reader_exact_C base reader_exact_c (reader_exact_e base) [(0, t0)] H []
theorem reader_exact_eq (base : Nat) (t0 : V) (H : Heap) : reader_exact base t0 H =
 beff (oVar H (.agg [(.int .i64 0), (.str []), .nils, (.int .i64 0), (.int .i64 0), .nils])) fun v0 h1 =>
 bnd (oBin .eql 6 t0 (.str [])) fun v2 =>
 cnd v2
 (bcall (E n_reader_fold [t0] h1) (fun v3 h4 =>
 beff (oStore base 6 h4 v0 v3) fun v5 h6 =>
 bnd (oLoad true 6 h6 v0) fun v7 =>
 rt false base v7 h6)
 (fun v3 h4 => pn false base v3 h4))
 (bnd (oBuild [(.int .i64 0), (.str []), .nils, (.int .i64 0), (.int .i64 0), .nils] [(0, 1), (1, 1), (2, 1), (3, 1), (4, 1), (5, 1)] [(0, (.int .i64 6))]) fun v8 =>
 beff (oVar h1 (.agg [(.int .i64 0), (.str []), .nils, (.int .i64 0), (.int .i64 0), .nils])) fun v9 h10 =>
 beff (oStore base 6 h10 v9 v8) fun v11 h12 =>
 bnd (oLenStr t0) fun v13 =>
 reader_exact_l1 base t0 v0 v9 v13 (.int .i64 0) h12) := by kernel_rfl
theorem reader_exact_E (t0 : V) (H : Heap) : E n_reader_exact [t0] H = reader_exact H.length t0 H := (EV_at Try.func76 (by kernel_rfl) (by kernel_rfl) (by kernel_rfl)).trans (by kernel_rfl)

def reader_reader_value_c : Code := bodyOf Try.f78
def reader_reader_value_ks : Ks := []
def reader_reader_value_e (base : Nat) : KC (Out × Heap) := xEnd Try.prog D false base 16 Try.f78.results.toList
def reader_reader_value_C (base : Nat) (c : Code) (k : KC (Out × Heap)) (t : Ts) (H : Heap) (d : Ds) : Option (Out × Heap) := xC Try.prog base false reader_reader_value_ks E 16 c k t H d
def reader_reader_value (base : Nat) (t0 t1 : V) (H : Heap) : Option (Out × Heap) := reader_reader_value_C base reader_reader_value_c (reader_reader_value_e base) [(0, t0), (1, t1)] H []
theorem reader_reader_value_eq (base : Nat) (t0 t1 : V) (H : Heap) : reader_reader_value base t0 t1 H =
 bcall (E n_reader_reader_number [t0, t1, (.int .i64 1114111)] H) (fun v0 h1 =>
 bnd (oExtract v0 0) fun v2 =>
 bnd (oExtract v0 1) fun v3 =>
 bcall (E n_reader_want [v3, (.int .i64 20)] h1) (fun v4 h5 =>
 rt false base v2 h5)
 (fun v4 h5 => pn false base v4 h5))
 (fun v0 h1 => pn false base v0 h1) := by kernel_rfl
theorem reader_reader_value_E (t0 t1 : V) (H : Heap) : E n_reader_reader_value [t0, t1] H = reader_reader_value H.length t0 t1 H := (EV_at Try.func78 (by kernel_rfl) (by kernel_rfl) (by kernel_rfl)).trans (by kernel_rfl)
end
end Go.Proofs.Ytjnnegacjmcdbaa
end

