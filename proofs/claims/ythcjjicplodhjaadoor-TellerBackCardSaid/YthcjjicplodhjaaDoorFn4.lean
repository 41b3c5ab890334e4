/- Fn4: a part of the proof that each law of this seat answers true at every input. No condition. -/
import Derived.Test.YthcjjicplodhjaaDoorHint
import Derived.KernelRfl
set_option linter.unusedVariables false
set_option linter.unusedSimpArgs false
set_option maxRecDepth 20000
section
/- Printed: what functions do. -/
namespace Go.Proofs.YthcjjicplodhjaaDoor
open Go Go.Ev
set_option linter.unusedVariables false
noncomputable section

def ref03_reader_value_c : Code := bodyOf Tryd.f100
def ref03_reader_value_ks : Ks := [(5, [0, 2, 3]), (18, [0, 2, 4]), (27, [0, 2, 4, 5]), (32, [2, 5])]
def ref03_reader_value_e (base : Nat) : KC (Out × Heap) := xEnd Tryd.prog D false base 126 Tryd.f100.results.toList
def ref03_reader_value_C (base : Nat) (c : Code) (k : KC (Out × Heap)) (t : Ts) (H : Heap) (d : Ds) : Option (Out × Heap) := xC Tryd.prog base true ref03_reader_value_ks E 126 c k t H d
def ref03_reader_value_l3 (base : Nat) (t0 t2 t4 t5 : V) (H : Heap) : Option (Out × Heap) :=
iterL (fun t H d again => ref03_reader_value_C base (cAt [1, 1, 1, 1, 1, 1, 1, 1, 1, 1, 0, 0, 0] ref03_reader_value_c) (loopK ref03_reader_value_ks (cAt [1, 1, 1, 1, 1, 1, 1, 1, 1, 1, 0, 0, 0] ref03_reader_value_c) again ((blockK 1 ((seqK (fun _ t => ref03_reader_value_C base (cAt [1, 1, 1, 1, 1, 1, 1, 1, 1, 1, 1] ref03_reader_value_c) (ref03_reader_value_e base) (trimA ref03_reader_value_ks (cAt [1, 1, 1, 1, 1, 1, 1, 1, 1, 1, 1] ref03_reader_value_c) t)) (ref03_reader_value_e base)))))) t H d) [(0, t0), (2, t2), (4, t4), (5, t5)] H []
def ref03_reader_value_j4 (base : Nat) (t2 t5 : V) (H : Heap) : Option (Out × Heap) :=
ref03_reader_value_C base (cAt [1, 1, 1, 1, 1, 1, 1, 1, 1, 1, 1, 1] ref03_reader_value_c) (ref03_reader_value_e base) [(2, t2), (5, t5)] H []
theorem ref03_reader_value_j4_eq (base : Nat) (t2 t5 : V) (H : Heap) : ref03_reader_value_j4 base t2 t5 H =
 bnd (oLoad true 6 H t5) fun v112 =>
 beff (oStore base 6 H t2 v112) fun v113 h114 =>
 bnd (oLoad true 6 h114 t2) fun v115 =>
 rt false base v115 h114 := by kernel_rfl
theorem ref03_reader_value_l3_eq (base : Nat) (t0 t2 t4 t5 : V) (H : Heap) : ref03_reader_value_l3 base t0 t2 t4 t5 H =
 bnd (oFieldPtr t5 0) fun v65 =>
 bnd (oLoad false 1 H v65) fun v66 =>
 bnd (oBin .eql 6 v66 (.int .i64 6)) fun v67 =>
 bnd (gua v67 true (oMove t0) (some (.tup []))) fun v68 =>
 bcall (gua v67 true (E n_ref03_reader_at [v68, (.int .i64 0)] H) (some (.ret (.tup []), H))) (fun v69 h70 =>
 bnd (gua v67 true (oBin .eql 6 v69 (.int .i64 46)) (some (.tup []))) fun v71 =>
 bnd (oPick v67 v71 (.bool false)) fun v72 =>
 bnd (gua v72 true (oMove t0) (some (.tup []))) fun v73 =>
 bnd (gua v72 true (oNil v73) (some (.tup []))) fun v74 =>
 bnd (gua v72 true (oFieldPtr v74 2) (some (.tup []))) fun v75 =>
 bnd (gua v72 true (oLoad false 1 h70 v75) (some (.tup []))) fun v76 =>
 bnd (gua v72 true (oBin .eql 6 v76 (.int .i64 0)) (some (.tup []))) fun v77 =>
 bnd (oPick v72 v77 (.bool false)) fun v78 =>
 cnd v78
 (bnd (oNil t0) fun v79 =>
 bnd (oFieldPtr v79 1) fun v80 =>
 bnd (oLoad false 1 h70 v80) fun v81 =>
 bnd (oBin .add 6 v81 (.int .i64 1)) fun v82 =>
 bnd (oNil t0) fun v83 =>
 bnd (oFieldPtr v83 1) fun v84 =>
 beff (oStore base 1 h70 v84 v82) fun v85 h86 =>
 bnd (oFieldPtr t5 2) fun v87 =>
 bnd (oLoad false 1 h86 v87) fun v88 =>
 bcall (E n_ref03_reader_need [t0, t4] h86) (fun v89 h90 =>
 sch (sam (oLoad false 1 h90 v87) v88) (
 bnd (oLit 1 1 (.int .i64 0) [(0, v89)]) fun v91 =>
 beff (oAppend base 1 8 false v88 v91 h90) fun v92 h93 =>
 bnd (oFieldPtr t5 2) fun v94 =>
 beff (oStore base 1 h93 v94 v92) fun v95 h96 =>
 ref03_reader_value_l3 base t0 t2 t4 t5 h96))
 (fun v89 h90 => pn false base v89 h90))
 (bnd (oFieldPtr t5 0) fun v97 =>
 bnd (oLoad false 1 h70 v97) fun v98 =>
 bnd (oBin .eql 6 v98 (.int .i64 7)) fun v99 =>
 bnd (gua v99 true (oFieldPtr t5 2) (some (.tup []))) fun v100 =>
 bnd (gua v99 true (oLoad false 1 h70 v100) (some (.tup []))) fun v101 =>
 bnd (gua v99 true (oIndexPtr 1 v101 (.int .i64 0)) (some (.tup []))) fun v102 =>
 bnd (gua v99 true (oLoad false 1 h70 v102) (some (.tup []))) fun v103 =>
 bnd (gua v99 true (oFieldPtr t5 2) (some (.tup []))) fun v104 =>
 bnd (gua v99 true (oLoad false 1 h70 v104) (some (.tup []))) fun v105 =>
 bnd (gua v99 true (oIndexPtr 1 v105 (.int .i64 1)) (some (.tup []))) fun v106 =>
 bnd (gua v99 true (oLoad false 1 h70 v106) (some (.tup []))) fun v107 =>
 bnd (gua v99 true (oBin .gtr 6 v103 v107) (some (.tup []))) fun v108 =>
 bnd (oPick v99 v108 (.bool false)) fun v109 =>
 cnd v109
 (bcall (E n_ref03_reader_fail [t0, (.int .i64 20)] h70) (fun v110 h111 =>
 ref03_reader_value_j4 base t2 t5 h111)
 (fun v110 h111 => pn false base v110 h111))
 (ref03_reader_value_j4 base t2 t5 h70)))
 (fun v69 h70 => pn false base v69 h70) := (loop_eq (cAt [1, 1, 1, 1, 1, 1, 1, 1, 1, 1, 0, 0, 0] ref03_reader_value_c) ((blockK 1 ((seqK (fun _ t => ref03_reader_value_C base (cAt [1, 1, 1, 1, 1, 1, 1, 1, 1, 1, 1] ref03_reader_value_c) (ref03_reader_value_e base) (trimA ref03_reader_value_ks (cAt [1, 1, 1, 1, 1, 1, 1, 1, 1, 1, 1] ref03_reader_value_c) t)) (ref03_reader_value_e base))))) _ H []).trans (by kernel_rfl)
def ref03_reader_value_j2 (base : Nat) (t0 t2 t4 : V) (H : Heap) : Option (Out × Heap) :=
ref03_reader_value_C base (cAt [1, 1, 1, 1, 1, 1] ref03_reader_value_c) (ref03_reader_value_e base) [(0, t0), (2, t2), (4, t4)] H []
theorem ref03_reader_value_j2_eq (base : Nat) (t0 t2 t4 : V) (H : Heap) : ref03_reader_value_j2 base t0 t2 t4 H =
 bnd (oNil t0) fun v17 =>
 bnd (oFieldPtr v17 1) fun v18 =>
 bnd (oLoad false 1 H v18) fun v19 =>
 bnd (oBin .add 6 v19 (.int .i64 1)) fun v20 =>
 bnd (oNil t0) fun v21 =>
 bnd (oFieldPtr v21 1) fun v22 =>
 beff (oStore base 1 H v22 v20) fun v23 h24 =>
 bnd (oBin .eql 6 t4 (.int .i64 0)) fun v25 =>
 cnd v25
 (bcall (E n_ref03_reader_fail [t0, (.int .i64 20)] h24) (fun v26 h27 =>
 bnd (oBuild [(.int .i64 0), (.str []), .nils, (.int .i64 0), (.int .i64 0), .nils] [(0, 1), (1, 1), (2, 1), (3, 1), (4, 1), (5, 1)] []) fun v28 =>
 beff (oStore base 6 h27 t2 v28) fun v29 h30 =>
 bnd (oLoad true 6 h30 t2) fun v31 =>
 rt false base v31 h30)
 (fun v26 h27 => pn false base v26 h27))
 (bcall (E n_ref03_reader_need [t0, t4] h24) (fun v32 h33 =>
 beff (oRow 1 1 false [(.int .i64 0)] h33 [(0, v32)]) fun v34 h35 =>
 bnd (oBuild [(.int .i64 0), (.str []), .nils, (.int .i64 0), (.int .i64 0), .nils] [(0, 1), (1, 1), (2, 1), (3, 1), (4, 1), (5, 1)] [(0, (.int .i64 6)), (2, v34)]) fun v36 =>
 beff (oVar h35 (.agg [(.int .i64 0), (.str []), .nils, (.int .i64 0), (.int .i64 0), .nils])) fun v37 h38 =>
 beff (oStore base 6 h38 v37 v36) fun v39 h40 =>
 bcall (E n_ref03_reader_at [t0, (.int .i64 0)] h40) (fun v41 h42 =>
 bnd (oBin .eql 6 v41 (.int .i64 45)) fun v43 =>
 cnd v43
 (bnd (oFieldPtr v37 0) fun v44 =>
 beff (oStore base 1 h42 v44 (.int .i64 7)) fun v45 h46 =>
 bnd (oNil t0) fun v47 =>
 bnd (oFieldPtr v47 1) fun v48 =>
 bnd (oLoad false 1 h46 v48) fun v49 =>
 bnd (oBin .add 6 v49 (.int .i64 1)) fun v50 =>
 bnd (oNil t0) fun v51 =>
 bnd (oFieldPtr v51 1) fun v52 =>
 beff (oStore base 1 h46 v52 v50) fun v53 h54 =>
 bnd (oFieldPtr v37 2) fun v55 =>
 bnd (oLoad false 1 h54 v55) fun v56 =>
 bcall (E n_ref03_reader_need [t0, t4] h54) (fun v57 h58 =>
 sch (sam (oLoad false 1 h58 v55) v56) (
 bnd (oLit 1 1 (.int .i64 0) [(0, v57)]) fun v59 =>
 beff (oAppend base 1 8 false v56 v59 h58) fun v60 h61 =>
 bnd (oFieldPtr v37 2) fun v62 =>
 beff (oStore base 1 h61 v62 v60) fun v63 h64 =>
 ref03_reader_value_l3 base t0 t2 t4 v37 h64))
 (fun v57 h58 => pn false base v57 h58))
 (ref03_reader_value_l3 base t0 t2 t4 v37 h42))
 (fun v41 h42 => pn false base v41 h42))
 (fun v32 h33 => pn false base v32 h33)) := by kernel_rfl
def ref03_reader_value_j1 (base : Nat) (t0 t2 t3 : V) (H : Heap) : Option (Out × Heap) :=
ref03_reader_value_C base (cAt [1, 1, 1, 1] ref03_reader_value_c) (ref03_reader_value_e base) [(0, t0), (2, t2), (3, t3)] H []
theorem ref03_reader_value_j1_eq (base : Nat) (t0 t2 t3 : V) (H : Heap) : ref03_reader_value_j1 base t0 t2 t3 H =
 bnd (oBin .eql 6 t3 (.int .i64 98)) fun v16 =>
 cnd v16
 (ref03_reader_value_j2 base t0 t2 (.int .i64 2) H)
 (bnd (oBin .eql 6 t3 (.int .i64 100)) fun v116 =>
 cnd v116
 (ref03_reader_value_j2 base t0 t2 (.int .i64 10) H)
 (bnd (oBin .eql 6 t3 (.int .i64 120)) fun v117 =>
 cnd v117
 (ref03_reader_value_j2 base t0 t2 (.int .i64 16) H)
 (bnd (oBin .eql 6 t3 (.int .i64 105)) fun v118 =>
 cnd v118
 (cnd v118
 (bcall (E n_ref03_reader_at [t0, (.int .i64 1)] H) (fun v119 h120 =>
 bnd (oBin .eql 6 v119 (.int .i64 34)) fun v121 =>
 cnd v121
 (bnd (oNil t0) fun v122 =>
 bnd (oFieldPtr v122 1) fun v123 =>
 bnd (oLoad false 1 h120 v123) fun v124 =>
 bnd (oBin .add 6 v124 (.int .i64 1)) fun v125 =>
 bnd (oNil t0) fun v126 =>
 bnd (oFieldPtr v126 1) fun v127 =>
 beff (oStore base 1 h120 v127 v125) fun v128 h129 =>
 bnd (oBin .eql 6 t3 (.int .i64 105)) fun v130 =>
 bcall (E n_ref03_reader_text [t0, v130] h129) (fun v131 h132 =>
 beff (oStore base 6 h132 t2 v131) fun v133 h134 =>
 bnd (oLoad true 6 h134 t2) fun v135 =>
 rt false base v135 h134)
 (fun v131 h132 => pn false base v131 h132))
 (ref03_reader_value_j2 base t0 t2 (.int .i64 0) h120))
 (fun v119 h120 => pn false base v119 h120))
 (ref03_reader_value_j2 base t0 t2 (.int .i64 0) H))
 (bnd (oBin .eql 6 t3 (.int .i64 115)) fun v136 =>
 cnd v136
 (bcall (E n_ref03_reader_at [t0, (.int .i64 1)] H) (fun v137 h138 =>
 bnd (oBin .eql 6 v137 (.int .i64 34)) fun v139 =>
 cnd v139
 (bnd (oNil t0) fun v140 =>
 bnd (oFieldPtr v140 1) fun v141 =>
 bnd (oLoad false 1 h138 v141) fun v142 =>
 bnd (oBin .add 6 v142 (.int .i64 1)) fun v143 =>
 bnd (oNil t0) fun v144 =>
 bnd (oFieldPtr v144 1) fun v145 =>
 beff (oStore base 1 h138 v145 v143) fun v146 h147 =>
 bnd (oBin .eql 6 t3 (.int .i64 105)) fun v148 =>
 bcall (E n_ref03_reader_text [t0, v148] h147) (fun v149 h150 =>
 beff (oStore base 6 h150 t2 v149) fun v151 h152 =>
 bnd (oLoad true 6 h152 t2) fun v153 =>
 rt false base v153 h152)
 (fun v149 h150 => pn false base v149 h150))
 (ref03_reader_value_j2 base t0 t2 (.int .i64 0) h138))
 (fun v137 h138 => pn false base v137 h138))
 (ref03_reader_value_j2 base t0 t2 (.int .i64 0) H))))) := by kernel_rfl
def ref03_reader_value (base : Nat) (t0 : V) (H : Heap) : Option (Out × Heap) := ref03_reader_value_C base ref03_reader_value_c (ref03_reader_value_e base) [(0, t0)] H []
theorem ref03_reader_value_eq (base : Nat) (t0 : V) (H : Heap) : ref03_reader_value base t0 H =
 beff (oVar H (.agg [(.int .i64 0), (.str []), .nils, (.int .i64 0), (.int .i64 0), .nils])) fun v0 h1 =>
 bnd (oNil t0) fun v2 =>
 bnd (oFieldPtr v2 1) fun v3 =>
 bnd (oLoad false 1 h1 v3) fun v4 =>
 bnd (oBin .add 6 v4 (.int .i64 1)) fun v5 =>
 bnd (oNil t0) fun v6 =>
 bnd (oFieldPtr v6 1) fun v7 =>
 beff (oStore base 1 h1 v7 v5) fun v8 h9 =>
 bcall (E n_ref03_reader_at [t0, (.int .i64 0)] h9) (fun v10 h11 =>
 bnd (oBin .or 6 v10 (.int .i64 32)) fun v12 =>
 bcall (E n_ref03_reader_at [t0, (.int .i64 0)] h11) (fun v13 h14 =>
 bnd (oBin .lss 6 v13 (.int .i64 0)) fun v15 =>
 cnd v15
 (ref03_reader_value_j1 base t0 v0 (.int .i64 0) h14)
 (ref03_reader_value_j1 base t0 v0 v12 h14))
 (fun v13 h14 => pn false base v13 h14))
 (fun v10 h11 => pn false base v10 h11) := by kernel_rfl
theorem ref03_reader_value_E (t0 : V) (H : Heap) : E n_ref03_reader_value [t0] H = ref03_reader_value H.length t0 H := (EV_at Tryd.func100 (by kernel_rfl) (by kernel_rfl) (by kernel_rfl)).trans (by kernel_rfl)

def internal_strconv_isPowerOfTwo_c : Code := bodyOf Tryd.f104
def internal_strconv_isPowerOfTwo_ks : Ks := []
def internal_strconv_isPowerOfTwo_e (base : Nat) : KC (Out × Heap) := xEnd Tryd.prog D false base 8 Tryd.f104.results.toList
def internal_strconv_isPowerOfTwo_C (base : Nat) (c : Code) (k : KC (Out × Heap)) (t : Ts) (H : Heap) (d : Ds) : Option (Out × Heap) := xC Tryd.prog base false internal_strconv_isPowerOfTwo_ks E 8 c k t H d
def internal_strconv_isPowerOfTwo (base : Nat) (t0 : V) (H : Heap) : Option (Out × Heap) := internal_strconv_isPowerOfTwo_C base internal_strconv_isPowerOfTwo_c (internal_strconv_isPowerOfTwo_e base) [(0, t0)] H []
theorem internal_strconv_isPowerOfTwo_eq (base : Nat) (t0 : V) (H : Heap) : internal_strconv_isPowerOfTwo base t0 H =
 bnd (oBin .sub 6 t0 (.int .i64 1)) fun v0 =>
 bnd (oBin .and 6 t0 v0) fun v1 =>
 bnd (oBin .eql 6 v1 (.int .i64 0)) fun v2 =>
 rt false base v2 H := by kernel_rfl
theorem internal_strconv_isPowerOfTwo_E (t0 : V) (H : Heap) : E n_internal_strconv_isPowerOfTwo [t0] H = internal_strconv_isPowerOfTwo H.length t0 H := (EV_at Tryd.func104 (by kernel_rfl) (by kernel_rfl) (by kernel_rfl)).trans (by kernel_rfl)

def math_bits_TrailingZeros_c : Code := bodyOf Tryd.f105
def math_bits_TrailingZeros_ks : Ks := []
def math_bits_TrailingZeros_e (base : Nat) : KC (Out × Heap) := xEnd Tryd.prog D false base 8 Tryd.f105.results.toList
def math_bits_TrailingZeros_C (base : Nat) (c : Code) (k : KC (Out × Heap)) (t : Ts) (H : Heap) (d : Ds) : Option (Out × Heap) := xC Tryd.prog base false math_bits_TrailingZeros_ks E 8 c k t H d
def math_bits_TrailingZeros (base : Nat) (t0 : V) (H : Heap) : Option (Out × Heap) := math_bits_TrailingZeros_C base math_bits_TrailingZeros_c (math_bits_TrailingZeros_e base) [(0, t0)] H []
theorem math_bits_TrailingZeros_eq (base : Nat) (t0 : V) (H : Heap) : math_bits_TrailingZeros base t0 H =
 cnd (.bool false)
 (bnd (oIntTo .u32 t0) fun v0 =>
 bcall (E n_math_bits_TrailingZeros32 [v0] H) (fun v1 h2 =>
 rt false base v1 h2)
 (fun v1 h2 => pn false base v1 h2))
 (bcall (E n_math_bits_TrailingZeros64 [t0] H) (fun v3 h4 =>
 rt false base v3 h4)
 (fun v3 h4 => pn false base v3 h4)) := by kernel_rfl
theorem math_bits_TrailingZeros_E (t0 : V) (H : Heap) : E n_math_bits_TrailingZeros [t0] H = math_bits_TrailingZeros H.length t0 H := (EV_at Tryd.func105 (by kernel_rfl) (by kernel_rfl) (by kernel_rfl)).trans (by kernel_rfl)

def ref03_reader_quoted_c : Code := bodyOf Tryd.f109
def ref03_reader_quoted_ks : Ks := [(3, [0, 3]), (8, [0, 3])]
def ref03_reader_quoted_e (base : Nat) : KC (Out × Heap) := xEnd Tryd.prog D false base 60 Tryd.f109.results.toList
def ref03_reader_quoted_C (base : Nat) (c : Code) (k : KC (Out × Heap)) (t : Ts) (H : Heap) (d : Ds) : Option (Out × Heap) := xC Tryd.prog base false ref03_reader_quoted_ks E 60 c k t H d
def ref03_reader_quoted_l1 (base : Nat) (t0 t3 : V) (H : Heap) : Option (Out × Heap) :=
iterL (fun t H d again => ref03_reader_quoted_C base (cAt [1, 1, 1, 0, 0, 0] ref03_reader_quoted_c) (loopK ref03_reader_quoted_ks (cAt [1, 1, 1, 0, 0, 0] ref03_reader_quoted_c) again ((blockK 0 ((seqK (fun _ t => ref03_reader_quoted_C base (cAt [1, 1, 1, 1] ref03_reader_quoted_c) (ref03_reader_quoted_e base) (trimA ref03_reader_quoted_ks (cAt [1, 1, 1, 1] ref03_reader_quoted_c) t)) (ref03_reader_quoted_e base)))))) t H d) [(0, t0), (3, t3)] H []
def ref03_reader_quoted_j2 (base : Nat) (t0 t3 : V) (H : Heap) : Option (Out × Heap) :=
ref03_reader_quoted_C base (cAt [1, 1, 1, 1, 1] ref03_reader_quoted_c) (ref03_reader_quoted_e base) [(0, t0), (3, t3)] H []
theorem ref03_reader_quoted_j2_eq (base : Nat) (t0 t3 : V) (H : Heap) : ref03_reader_quoted_j2 base t0 t3 H =
 bnd (oNil t0) fun v46 =>
 bnd (oFieldPtr v46 1) fun v47 =>
 bnd (oLoad false 1 H v47) fun v48 =>
 bnd (oBin .add 6 v48 (.int .i64 1)) fun v49 =>
 bnd (oNil t0) fun v50 =>
 bnd (oFieldPtr v50 1) fun v51 =>
 beff (oStore base 1 H v51 v49) fun v52 h53 =>
 rt false base t3 h53 := by kernel_rfl
theorem ref03_reader_quoted_l1_eq (base : Nat) (t0 t3 : V) (H : Heap) : ref03_reader_quoted_l1 base t0 t3 H =
 bcall (E n_ref03_reader_at [t0, (.int .i64 0)] H) (fun v8 h9 =>
 bnd (oBin .geq 6 v8 (.int .i64 32)) fun v10 =>
 bnd (gua v10 true (oMove t0) (some (.tup []))) fun v11 =>
 bcall (gua v10 true (E n_ref03_reader_at [v11, (.int .i64 0)] h9) (some (.ret (.tup []), h9))) (fun v12 h13 =>
 bnd (gua v10 true (oBin .lss 6 v12 (.int .i64 127)) (some (.tup []))) fun v14 =>
 bnd (oPick v10 v14 (.bool false)) fun v15 =>
 bnd (gua v15 true (oMove t0) (some (.tup []))) fun v16 =>
 bcall (gua v15 true (E n_ref03_reader_at [v16, (.int .i64 0)] h13) (some (.ret (.tup []), h13))) (fun v17 h18 =>
 bnd (gua v15 true (oBin .neq 6 v17 (.int .i64 34)) (some (.tup []))) fun v19 =>
 bnd (oPick v15 v19 (.bool false)) fun v20 =>
 cnd v20
 (bnd (oNil t0) fun v21 =>
 bnd (oFieldPtr v21 0) fun v22 =>
 bnd (oLoad false 1 h18 v22) fun v23 =>
 bnd (oNil t0) fun v24 =>
 bnd (oFieldPtr v24 1) fun v25 =>
 bnd (oLoad false 1 h18 v25) fun v26 =>
 bnd (oNil t0) fun v27 =>
 bnd (oFieldPtr v27 1) fun v28 =>
 bnd (oLoad false 1 h18 v28) fun v29 =>
 bnd (oBin .add 6 v29 (.int .i64 1)) fun v30 =>
 bnd (oSliceStr v23 (some v26) (some v30) none) fun v31 =>
 bnd (oBin .add 6 t3 v31) fun v32 =>
 bnd (oNil t0) fun v33 =>
 bnd (oFieldPtr v33 1) fun v34 =>
 bnd (oLoad false 1 h18 v34) fun v35 =>
 bnd (oBin .add 6 v35 (.int .i64 1)) fun v36 =>
 bnd (oNil t0) fun v37 =>
 bnd (oFieldPtr v37 1) fun v38 =>
 beff (oStore base 1 h18 v38 v36) fun v39 h40 =>
 ref03_reader_quoted_l1 base t0 v32 h40)
 (bcall (E n_ref03_reader_at [t0, (.int .i64 0)] h18) (fun v41 h42 =>
 bnd (oBin .neq 6 v41 (.int .i64 34)) fun v43 =>
 cnd v43
 (bcall (E n_ref03_reader_fail [t0, (.int .i64 20)] h42) (fun v44 h45 =>
 ref03_reader_quoted_j2 base t0 t3 h45)
 (fun v44 h45 => pn false base v44 h45))
 (ref03_reader_quoted_j2 base t0 t3 h42))
 (fun v41 h42 => pn false base v41 h42)))
 (fun v17 h18 => pn false base v17 h18))
 (fun v12 h13 => pn false base v12 h13))
 (fun v8 h9 => pn false base v8 h9) := (loop_eq (cAt [1, 1, 1, 0, 0, 0] ref03_reader_quoted_c) ((blockK 0 ((seqK (fun _ t => ref03_reader_quoted_C base (cAt [1, 1, 1, 1] ref03_reader_quoted_c) (ref03_reader_quoted_e base) (trimA ref03_reader_quoted_ks (cAt [1, 1, 1, 1] ref03_reader_quoted_c) t)) (ref03_reader_quoted_e base))))) _ H []).trans (by kernel_rfl)
def ref03_reader_quoted (base : Nat) (t0 : V) (H : Heap) : Option (Out × Heap) := ref03_reader_quoted_C base ref03_reader_quoted_c (ref03_reader_quoted_e base) [(0, t0)] H []
theorem ref03_reader_quoted_eq (base : Nat) (t0 : V) (H : Heap) : ref03_reader_quoted base t0 H =
 bnd (oNil t0) fun v0 =>
 bnd (oFieldPtr v0 1) fun v1 =>
 bnd (oLoad false 1 H v1) fun v2 =>
 bnd (oBin .add 6 v2 (.int .i64 1)) fun v3 =>
 bnd (oNil t0) fun v4 =>
 bnd (oFieldPtr v4 1) fun v5 =>
 beff (oStore base 1 H v5 v3) fun v6 h7 =>
 ref03_reader_quoted_l1 base t0 (.str []) h7 := by kernel_rfl
theorem ref03_reader_quoted_E (t0 : V) (H : Heap) : E n_ref03_reader_quoted [t0] H = ref03_reader_quoted H.length t0 H := (EV_at Tryd.func109 (by kernel_rfl) (by kernel_rfl) (by kernel_rfl)).trans (by kernel_rfl)

def ref03_reader_need_c : Code := bodyOf Tryd.f110
def ref03_reader_need_ks : Ks := [(4, [5])]
def ref03_reader_need_e (base : Nat) : KC (Out × Heap) := xEnd Tryd.prog D false base 14 Tryd.f110.results.toList
def ref03_reader_need_C (base : Nat) (c : Code) (k : KC (Out × Heap)) (t : Ts) (H : Heap) (d : Ds) : Option (Out × Heap) := xC Tryd.prog base false ref03_reader_need_ks E 14 c k t H d
def ref03_reader_need_j1 (base : Nat) (t5 : V) (H : Heap) : Option (Out × Heap) :=
ref03_reader_need_C base (cAt [1, 1, 1] ref03_reader_need_c) (ref03_reader_need_e base) [(5, t5)] H []
theorem ref03_reader_need_j1_eq (base : Nat) (t5 : V) (H : Heap) : ref03_reader_need_j1 base t5 H =
 rt false base t5 H := by kernel_rfl
def ref03_reader_need (base : Nat) (t0 t1 : V) (H : Heap) : Option (Out × Heap) := ref03_reader_need_C base ref03_reader_need_c (ref03_reader_need_e base) [(0, t0), (1, t1)] H []
theorem ref03_reader_need_eq (base : Nat) (t0 t1 : V) (H : Heap) : ref03_reader_need base t0 t1 H =
 bcall (E n_ref03_reader_number [t0, t1, (.int .i64 1114111)] H) (fun v0 h1 =>
 bnd (oBin .lss 6 v0 (.int .i64 0)) fun v2 =>
 cnd v2
 (bcall (E n_ref03_reader_fail [t0, (.int .i64 20)] h1) (fun v3 h4 =>
 ref03_reader_need_j1 base v0 h4)
 (fun v3 h4 => pn false base v3 h4))
 (ref03_reader_need_j1 base v0 h1))
 (fun v0 h1 => pn false base v0 h1) := by kernel_rfl
theorem ref03_reader_need_E (t0 t1 : V) (H : Heap) : E n_ref03_reader_need [t0, t1] H = ref03_reader_need H.length t0 t1 H := (EV_at Tryd.func110 (by kernel_rfl) (by kernel_rfl) (by kernel_rfl)).trans (by kernel_rfl)
end
end Go.Proofs.YthcjjicplodhjaaDoor
end

