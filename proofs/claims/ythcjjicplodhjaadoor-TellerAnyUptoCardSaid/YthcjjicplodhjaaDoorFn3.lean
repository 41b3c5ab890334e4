/- Fn3: a part of the proof that each law of this seat answers true at every input. No condition. -/
import Derived.Test.YthcjjicplodhjaaDoorHint
import Derived.KernelRfl
set_option linter.unusedVariables false
set_option linter.unusedSimpArgs false
set_option maxRecDepth 20000
section
/- Printed: what functions do. -/
namespace Go.Proofs.YthcjjicplodhjaaDoor
open Go Go.Ev
set_option linter.unusedVariables false
noncomputable section

def teller_own_c : Code := bodyOf Tryd.f51
def teller_own_ks : Ks := [(19, [2, 3, 4, 6])]
def teller_own_e (base : Nat) : KC (Out × Heap) := xEnd Tryd.prog D false base 124 Tryd.f51.results.toList
def teller_own_C (base : Nat) (c : Code) (k : KC (Out × Heap)) (t : Ts) (H : Heap) (d : Ds) : Option (Out × Heap) := xC Tryd.prog base false teller_own_ks E 124 c k t H d
def teller_own_j1 (base : Nat) (t2 t3 t4 t6 : V) (H : Heap) : Option (Out × Heap) :=
teller_own_C base (cAt [1, 1, 1, 1, 1] teller_own_c) (teller_own_e base) [(2, t2), (3, t3), (4, t4), (6, t6)] H []
theorem teller_own_j1_eq (base : Nat) (t2 t3 t4 t6 : V) (H : Heap) : teller_own_j1 base t2 t3 t4 t6 H =
 bnd (gua t2 true (oFieldPtr t6 1) (some (.tup []))) fun v13 =>
 bnd (gua t2 true (oLoad false 1 H v13) (some (.tup []))) fun v14 =>
 bnd (gua t2 true (oBin .eql 6 v14 (.str [])) (some (.tup []))) fun v15 =>
 bnd (oPick t2 v15 (.bool false)) fun v16 =>
 bnd (gua v16 true (oFieldPtr t6 2) (some (.tup []))) fun v17 =>
 bnd (gua v16 true (oLoad false 1 H v17) (some (.tup []))) fun v18 =>
 bnd (gua v16 true (oLenSl v18) (some (.tup []))) fun v19 =>
 bnd (gua v16 true (oBin .eql 6 v19 (.int .i64 0)) (some (.tup []))) fun v20 =>
 bnd (oPick v16 v20 (.bool false)) fun v21 =>
 bnd (gua v21 true (oFieldPtr t6 3) (some (.tup []))) fun v22 =>
 bnd (gua v21 true (oLoad false 1 H v22) (some (.tup []))) fun v23 =>
 bnd (gua v21 true (oBin .eql 6 v23 (.int .i64 0)) (some (.tup []))) fun v24 =>
 bnd (oPick v21 v24 (.bool false)) fun v25 =>
 bnd (gua v25 true (oFieldPtr t6 4) (some (.tup []))) fun v26 =>
 bnd (gua v25 true (oLoad false 1 H v26) (some (.tup []))) fun v27 =>
 bnd (gua v25 true (oBin .eql 6 v27 (.int .i64 0)) (some (.tup []))) fun v28 =>
 bnd (oPick v25 v28 (.bool false)) fun v29 =>
 rt false base (.tup [v29, t3, t4]) H := by kernel_rfl
def teller_own (base : Nat) (t0 : V) (H : Heap) : Option (Out × Heap) := teller_own_C base teller_own_c (teller_own_e base) [(0, t0)] H []
theorem teller_own_eq (base : Nat) (t0 : V) (H : Heap) : teller_own base t0 H =
 beff (oVar H t0) fun v0 h1 =>
 bnd (oLoad true 6 h1 v0) fun v2 =>
 beff (oVar h1 (.agg [(.int .i64 0), (.str []), .nils, (.int .i64 0), (.int .i64 0), .nils])) fun v3 h4 =>
 beff (oStore base 6 h4 v3 v2) fun v5 h6 =>
 bnd (oFieldPtr v3 5) fun v7 =>
 beff (oStore base 1 h6 v7 .nils) fun v8 h9 =>
 bnd (oFieldPtr v0 0) fun v10 =>
 bnd (oLoad false 1 h9 v10) fun v11 =>
 bnd (oBin .eql 6 v11 (.int .i64 1)) fun v12 =>
 cnd v12
 (cnd v12
 (teller_own_j1 base (.bool true) (.int .i64 2) (.int .i64 (-1)) v3 h9)
 (bnd (oBin .eql 6 v11 (.int .i64 3)) fun v30 =>
 cnd v30
 (bnd (oFieldPtr v0 3) fun v31 =>
 bnd (oLoad false 1 h9 v31) fun v32 =>
 bnd (oBin .geq 6 v32 (.int .i64 0)) fun v33 =>
 bnd (gua v33 true (oFieldPtr v0 3) (some (.tup []))) fun v34 =>
 bnd (gua v33 true (oLoad false 1 h9 v34) (some (.tup []))) fun v35 =>
 bnd (gua v33 true (oBin .leq 6 v35 (.int .i64 200)) (some (.tup []))) fun v36 =>
 bnd (oPick v33 v36 (.bool false)) fun v37 =>
 bnd (gua v37 true (oFieldPtr v0 4) (some (.tup []))) fun v38 =>
 bnd (gua v37 true (oLoad false 1 h9 v38) (some (.tup []))) fun v39 =>
 bnd (gua v37 true (oBin .eql 6 v39 (.int .i64 (-1))) (some (.tup []))) fun v40 =>
 bnd (gua v37 true (oMove v40) (some (.tup []))) fun v41 =>
 bnd (gua v41 false (oFieldPtr v0 4) (some (.tup []))) fun v42 =>
 bnd (gua v41 false (oLoad false 1 h9 v42) (some (.tup []))) fun v43 =>
 bnd (gua v41 false (oFieldPtr v0 3) (some (.tup []))) fun v44 =>
 bnd (gua v41 false (oLoad false 1 h9 v44) (some (.tup []))) fun v45 =>
 bnd (gua v41 false (oBin .geq 6 v43 v45) (some (.tup []))) fun v46 =>
 bnd (gua v41 false (oMove v46) (some (.tup []))) fun v47 =>
 bnd (gua v47 true (oFieldPtr v0 4) (some (.tup []))) fun v48 =>
 bnd (gua v47 true (oLoad false 1 h9 v48) (some (.tup []))) fun v49 =>
 bnd (gua v47 true (oBin .leq 6 v49 (.int .i64 200)) (some (.tup []))) fun v50 =>
 bnd (gua v41 false (oPick v47 v50 (.bool false)) (some (.tup []))) fun v51 =>
 bnd (gua v37 true (oPick v41 (.bool true) v51) (some (.tup []))) fun v52 =>
 bnd (oPick v37 v52 (.bool false)) fun v53 =>
 bnd (oFieldPtr v3 3) fun v54 =>
 beff (oStore base 1 h9 v54 (.int .i64 0)) fun v55 h56 =>
 bnd (oFieldPtr v3 4) fun v57 =>
 beff (oStore base 1 h56 v57 (.int .i64 0)) fun v58 h59 =>
 teller_own_j1 base v53 (.int .i64 1) (.int .i64 1) v3 h59)
 (bnd (oBin .eql 6 v11 (.int .i64 4)) fun v60 =>
 cnd v60
 (bnd (oFieldPtr v0 1) fun v61 =>
 bnd (oLoad false 1 h9 v61) fun v62 =>
 bcall (E n_teller_Name [v62] h9) (fun v63 h64 =>
 bnd (oFieldPtr v3 1) fun v65 =>
 beff (oStore base 1 h64 v65 (.str [])) fun v66 h67 =>
 teller_own_j1 base v63 (.int .i64 0) (.int .i64 0) v3 h67)
 (fun v63 h64 => pn false base v63 h64))
 (bnd (oBin .eql 6 v11 (.int .i64 5)) fun v68 =>
 cnd v68
 (bnd (oFieldPtr v0 1) fun v69 =>
 bnd (oLoad false 1 h9 v69) fun v70 =>
 bcall (E n_teller_folded [v70] h9) (fun v71 h72 =>
 bnd (oFieldPtr v3 1) fun v73 =>
 beff (oStore base 1 h72 v73 (.str [])) fun v74 h75 =>
 teller_own_j1 base v71 (.int .i64 0) (.int .i64 0) v3 h75)
 (fun v71 h72 => pn false base v71 h72))
 (bnd (oBin .eql 6 v11 (.int .i64 6)) fun v76 =>
 cnd v76
 (bnd (oFieldPtr v0 2) fun v77 =>
 bnd (oLoad false 1 h9 v77) fun v78 =>
 bnd (oLenSl v78) fun v79 =>
 bnd (oBin .gtr 6 v79 (.int .i64 0)) fun v80 =>
 bnd (gua v80 true (oFieldPtr v0 2) (some (.tup []))) fun v81 =>
 bnd (gua v80 true (oLoad false 1 h9 v81) (some (.tup []))) fun v82 =>
 bnd (gua v80 true (oLenSl v82) (some (.tup []))) fun v83 =>
 bnd (gua v80 true (oBin .leq 6 v83 (.int .i64 10000)) (some (.tup []))) fun v84 =>
 bnd (oPick v80 v84 (.bool false)) fun v85 =>
 bnd (gua v85 true (oFieldPtr v0 2) (some (.tup []))) fun v86 =>
 bnd (gua v85 true (oLoad false 1 h9 v86) (some (.tup []))) fun v87 =>
 bnd (gua v85 true (oMove (.fn n_teller_own_1 [])) (some (.tup []))) fun v88 =>
 bcall (gua v85 true (E n_slices_ContainsFunc_int_int [v87, v88] h9) (some (.ret (.tup []), h9))) (fun v89 h90 =>
 bnd (gua v85 true (oUn .not v89) (some (.tup []))) fun v91 =>
 bnd (oPick v85 v91 (.bool false)) fun v92 =>
 bnd (oFieldPtr v3 2) fun v93 =>
 beff (oStore base 1 h90 v93 .nils) fun v94 h95 =>
 teller_own_j1 base v92 (.int .i64 0) (.int .i64 0) v3 h95)
 (fun v89 h90 => pn false base v89 h90))
 (bnd (oBin .eql 6 v11 (.int .i64 7)) fun v96 =>
 cnd v96
 (bnd (oFieldPtr v0 2) fun v97 =>
 bnd (oLoad false 1 h9 v97) fun v98 =>
 bnd (oLenSl v98) fun v99 =>
 bnd (oBin .eql 6 v99 (.int .i64 2)) fun v100 =>
 bnd (gua v100 true (oFieldPtr v0 2) (some (.tup []))) fun v101 =>
 bnd (gua v100 true (oLoad false 1 h9 v101) (some (.tup []))) fun v102 =>
 bnd (gua v100 true (oMove (.fn n_teller_own_1 [])) (some (.tup []))) fun v103 =>
 bcall (gua v100 true (E n_slices_ContainsFunc_int_int [v102, v103] h9) (some (.ret (.tup []), h9))) (fun v104 h105 =>
 bnd (gua v100 true (oUn .not v104) (some (.tup []))) fun v106 =>
 bnd (oPick v100 v106 (.bool false)) fun v107 =>
 bnd (gua v107 true (oFieldPtr v0 2) (some (.tup []))) fun v108 =>
 bnd (gua v107 true (oLoad false 1 h105 v108) (some (.tup []))) fun v109 =>
 bnd (gua v107 true (oIndexPtr 1 v109 (.int .i64 0)) (some (.tup []))) fun v110 =>
 bnd (gua v107 true (oLoad false 1 h105 v110) (some (.tup []))) fun v111 =>
 bnd (gua v107 true (oFieldPtr v0 2) (some (.tup []))) fun v112 =>
 bnd (gua v107 true (oLoad false 1 h105 v112) (some (.tup []))) fun v113 =>
 bnd (gua v107 true (oIndexPtr 1 v113 (.int .i64 1)) (some (.tup []))) fun v114 =>
 bnd (gua v107 true (oLoad false 1 h105 v114) (some (.tup []))) fun v115 =>
 bnd (gua v107 true (oBin .leq 6 v111 v115) (some (.tup []))) fun v116 =>
 bnd (oPick v107 v116 (.bool false)) fun v117 =>
 bnd (oFieldPtr v3 2) fun v118 =>
 beff (oStore base 1 h105 v118 .nils) fun v119 h120 =>
 teller_own_j1 base v117 (.int .i64 0) (.int .i64 0) v3 h120)
 (fun v104 h105 => pn false base v104 h105))
 (teller_own_j1 base (.bool false) (.int .i64 0) (.int .i64 0) v3 h9)))))))
 (bnd (oBin .eql 6 v11 (.int .i64 2)) fun v121 =>
 cnd v121
 (teller_own_j1 base (.bool true) (.int .i64 2) (.int .i64 (-1)) v3 h9)
 (bnd (oBin .eql 6 v11 (.int .i64 3)) fun v122 =>
 cnd v122
 (bnd (oFieldPtr v0 3) fun v123 =>
 bnd (oLoad false 1 h9 v123) fun v124 =>
 bnd (oBin .geq 6 v124 (.int .i64 0)) fun v125 =>
 bnd (gua v125 true (oFieldPtr v0 3) (some (.tup []))) fun v126 =>
 bnd (gua v125 true (oLoad false 1 h9 v126) (some (.tup []))) fun v127 =>
 bnd (gua v125 true (oBin .leq 6 v127 (.int .i64 200)) (some (.tup []))) fun v128 =>
 bnd (oPick v125 v128 (.bool false)) fun v129 =>
 bnd (gua v129 true (oFieldPtr v0 4) (some (.tup []))) fun v130 =>
 bnd (gua v129 true (oLoad false 1 h9 v130) (some (.tup []))) fun v131 =>
 bnd (gua v129 true (oBin .eql 6 v131 (.int .i64 (-1))) (some (.tup []))) fun v132 =>
 bnd (gua v129 true (oMove v132) (some (.tup []))) fun v133 =>
 bnd (gua v133 false (oFieldPtr v0 4) (some (.tup []))) fun v134 =>
 bnd (gua v133 false (oLoad false 1 h9 v134) (some (.tup []))) fun v135 =>
 bnd (gua v133 false (oFieldPtr v0 3) (some (.tup []))) fun v136 =>
 bnd (gua v133 false (oLoad false 1 h9 v136) (some (.tup []))) fun v137 =>
 bnd (gua v133 false (oBin .geq 6 v135 v137) (some (.tup []))) fun v138 =>
 bnd (gua v133 false (oMove v138) (some (.tup []))) fun v139 =>
 bnd (gua v139 true (oFieldPtr v0 4) (some (.tup []))) fun v140 =>
 bnd (gua v139 true (oLoad false 1 h9 v140) (some (.tup []))) fun v141 =>
 bnd (gua v139 true (oBin .leq 6 v141 (.int .i64 200)) (some (.tup []))) fun v142 =>
 bnd (gua v133 false (oPick v139 v142 (.bool false)) (some (.tup []))) fun v143 =>
 bnd (gua v129 true (oPick v133 (.bool true) v143) (some (.tup []))) fun v144 =>
 bnd (oPick v129 v144 (.bool false)) fun v145 =>
 bnd (oFieldPtr v3 3) fun v146 =>
 beff (oStore base 1 h9 v146 (.int .i64 0)) fun v147 h148 =>
 bnd (oFieldPtr v3 4) fun v149 =>
 beff (oStore base 1 h148 v149 (.int .i64 0)) fun v150 h151 =>
 teller_own_j1 base v145 (.int .i64 1) (.int .i64 1) v3 h151)
 (bnd (oBin .eql 6 v11 (.int .i64 4)) fun v152 =>
 cnd v152
 (bnd (oFieldPtr v0 1) fun v153 =>
 bnd (oLoad false 1 h9 v153) fun v154 =>
 bcall (E n_teller_Name [v154] h9) (fun v155 h156 =>
 bnd (oFieldPtr v3 1) fun v157 =>
 beff (oStore base 1 h156 v157 (.str [])) fun v158 h159 =>
 teller_own_j1 base v155 (.int .i64 0) (.int .i64 0) v3 h159)
 (fun v155 h156 => pn false base v155 h156))
 (bnd (oBin .eql 6 v11 (.int .i64 5)) fun v160 =>
 cnd v160
 (bnd (oFieldPtr v0 1) fun v161 =>
 bnd (oLoad false 1 h9 v161) fun v162 =>
 bcall (E n_teller_folded [v162] h9) (fun v163 h164 =>
 bnd (oFieldPtr v3 1) fun v165 =>
 beff (oStore base 1 h164 v165 (.str [])) fun v166 h167 =>
 teller_own_j1 base v163 (.int .i64 0) (.int .i64 0) v3 h167)
 (fun v163 h164 => pn false base v163 h164))
 (bnd (oBin .eql 6 v11 (.int .i64 6)) fun v168 =>
 cnd v168
 (bnd (oFieldPtr v0 2) fun v169 =>
 bnd (oLoad false 1 h9 v169) fun v170 =>
 bnd (oLenSl v170) fun v171 =>
 bnd (oBin .gtr 6 v171 (.int .i64 0)) fun v172 =>
 bnd (gua v172 true (oFieldPtr v0 2) (some (.tup []))) fun v173 =>
 bnd (gua v172 true (oLoad false 1 h9 v173) (some (.tup []))) fun v174 =>
 bnd (gua v172 true (oLenSl v174) (some (.tup []))) fun v175 =>
 bnd (gua v172 true (oBin .leq 6 v175 (.int .i64 10000)) (some (.tup []))) fun v176 =>
 bnd (oPick v172 v176 (.bool false)) fun v177 =>
 bnd (gua v177 true (oFieldPtr v0 2) (some (.tup []))) fun v178 =>
 bnd (gua v177 true (oLoad false 1 h9 v178) (some (.tup []))) fun v179 =>
 bnd (gua v177 true (oMove (.fn n_teller_own_1 [])) (some (.tup []))) fun v180 =>
 bcall (gua v177 true (E n_slices_ContainsFunc_int_int [v179, v180] h9) (some (.ret (.tup []), h9))) (fun v181 h182 =>
 bnd (gua v177 true (oUn .not v181) (some (.tup []))) fun v183 =>
 bnd (oPick v177 v183 (.bool false)) fun v184 =>
 bnd (oFieldPtr v3 2) fun v185 =>
 beff (oStore base 1 h182 v185 .nils) fun v186 h187 =>
 teller_own_j1 base v184 (.int .i64 0) (.int .i64 0) v3 h187)
 (fun v181 h182 => pn false base v181 h182))
 (bnd (oBin .eql 6 v11 (.int .i64 7)) fun v188 =>
 cnd v188
 (bnd (oFieldPtr v0 2) fun v189 =>
 bnd (oLoad false 1 h9 v189) fun v190 =>
 bnd (oLenSl v190) fun v191 =>
 bnd (oBin .eql 6 v191 (.int .i64 2)) fun v192 =>
 bnd (gua v192 true (oFieldPtr v0 2) (some (.tup []))) fun v193 =>
 bnd (gua v192 true (oLoad false 1 h9 v193) (some (.tup []))) fun v194 =>
 bnd (gua v192 true (oMove (.fn n_teller_own_1 [])) (some (.tup []))) fun v195 =>
 bcall (gua v192 true (E n_slices_ContainsFunc_int_int [v194, v195] h9) (some (.ret (.tup []), h9))) (fun v196 h197 =>
 bnd (gua v192 true (oUn .not v196) (some (.tup []))) fun v198 =>
 bnd (oPick v192 v198 (.bool false)) fun v199 =>
 bnd (gua v199 true (oFieldPtr v0 2) (some (.tup []))) fun v200 =>
 bnd (gua v199 true (oLoad false 1 h197 v200) (some (.tup []))) fun v201 =>
 bnd (gua v199 true (oIndexPtr 1 v201 (.int .i64 0)) (some (.tup []))) fun v202 =>
 bnd (gua v199 true (oLoad false 1 h197 v202) (some (.tup []))) fun v203 =>
 bnd (gua v199 true (oFieldPtr v0 2) (some (.tup []))) fun v204 =>
 bnd (gua v199 true (oLoad false 1 h197 v204) (some (.tup []))) fun v205 =>
 bnd (gua v199 true (oIndexPtr 1 v205 (.int .i64 1)) (some (.tup []))) fun v206 =>
 bnd (gua v199 true (oLoad false 1 h197 v206) (some (.tup []))) fun v207 =>
 bnd (gua v199 true (oBin .leq 6 v203 v207) (some (.tup []))) fun v208 =>
 bnd (oPick v199 v208 (.bool false)) fun v209 =>
 bnd (oFieldPtr v3 2) fun v210 =>
 beff (oStore base 1 h197 v210 .nils) fun v211 h212 =>
 teller_own_j1 base v209 (.int .i64 0) (.int .i64 0) v3 h212)
 (fun v196 h197 => pn false base v196 h197))
 (teller_own_j1 base (.bool false) (.int .i64 0) (.int .i64 0) v3 h9))))))) := by kernel_rfl
theorem teller_own_E (t0 : V) (H : Heap) : E n_teller_own [t0] H = teller_own H.length t0 H := (EV_at Tryd.func51 (by kernel_rfl) (by kernel_rfl) (by kernel_rfl)).trans (by kernel_rfl)

def slices_ContainsFunc_api_Expr_api_Expr_c : Code := bodyOf Tryd.f52
def slices_ContainsFunc_api_Expr_api_Expr_ks : Ks := []
def slices_ContainsFunc_api_Expr_api_Expr_e (base : Nat) : KC (Out × Heap) := xEnd Tryd.prog D false base 9 Tryd.f52.results.toList
def slices_ContainsFunc_api_Expr_api_Expr_C (base : Nat) (c : Code) (k : KC (Out × Heap)) (t : Ts) (H : Heap) (d : Ds) : Option (Out × Heap) := xC Tryd.prog base false slices_ContainsFunc_api_Expr_api_Expr_ks E 9 c k t H d
def slices_ContainsFunc_api_Expr_api_Expr (base : Nat) (t0 t1 : V) (H : Heap) : Option (Out × Heap) := slices_ContainsFunc_api_Expr_api_Expr_C base slices_ContainsFunc_api_Expr_api_Expr_c (slices_ContainsFunc_api_Expr_api_Expr_e base) [(0, t0), (1, t1)] H []
theorem slices_ContainsFunc_api_Expr_api_Expr_eq (base : Nat) (t0 t1 : V) (H : Heap) : slices_ContainsFunc_api_Expr_api_Expr base t0 t1 H =
 bcall (E n_slices_IndexFunc_api_Expr_api_Expr [t0, t1] H) (fun v0 h1 =>
 bnd (oBin .geq 6 v0 (.int .i64 0)) fun v2 =>
 rt false base v2 h1)
 (fun v0 h1 => pn false base v0 h1) := by kernel_rfl
theorem slices_ContainsFunc_api_Expr_api_Expr_E (t0 t1 : V) (H : Heap) : E n_slices_ContainsFunc_api_Expr_api_Expr [t0, t1] H = slices_ContainsFunc_api_Expr_api_Expr H.length t0 t1 H := (EV_at Tryd.func52 (by kernel_rfl) (by kernel_rfl) (by kernel_rfl)).trans (by kernel_rfl)

def teller_within_1_c : Code := bodyOf Tryd.f53
def teller_within_1_ks : Ks := []
def teller_within_1_e (base : Nat) : KC (Out × Heap) := xEnd Tryd.prog D false base 9 Tryd.f53.results.toList
def teller_within_1_C (base : Nat) (c : Code) (k : KC (Out × Heap)) (t : Ts) (H : Heap) (d : Ds) : Option (Out × Heap) := xC Tryd.prog base false teller_within_1_ks E 9 c k t H d
def teller_within_1 (base : Nat) (t0 t1 : V) (H : Heap) : Option (Out × Heap) := teller_within_1_C base teller_within_1_c (teller_within_1_e base) [(0, t0), (1, t1)] H []
theorem teller_within_1_eq (base : Nat) (t0 t1 : V) (H : Heap) : teller_within_1 base t0 t1 H =
 beff (oVar H t0) fun v0 h1 =>
 bnd (oLoad true 6 h1 v0) fun v2 =>
 bnd (oLoad false 1 h1 t1) fun v3 =>
 bnd (oBin .sub 6 v3 (.int .i64 1)) fun v4 =>
 bcall (E n_teller_within [v2, v4] h1) (fun v5 h6 =>
 bnd (oUn .not v5) fun v7 =>
 rt false base v7 h6)
 (fun v5 h6 => pn false base v5 h6) := by kernel_rfl
theorem teller_within_1_E (t0 t1 : V) (H : Heap) : E n_teller_within_1 [t0, t1] H = teller_within_1 H.length t0 t1 H := (EV_at Tryd.func53 (by kernel_rfl) (by kernel_rfl) (by kernel_rfl)).trans (by kernel_rfl)

def ref04_inner_c : Code := bodyOf Tryd.f54
def ref04_inner_ks : Ks := []
def ref04_inner_e (base : Nat) : KC (Out × Heap) := xEnd Tryd.prog D false base 37 Tryd.f54.results.toList
def ref04_inner_C (base : Nat) (c : Code) (k : KC (Out × Heap)) (t : Ts) (H : Heap) (d : Ds) : Option (Out × Heap) := xC Tryd.prog base false ref04_inner_ks E 37 c k t H d
def ref04_inner (base : Nat) (t0 t1 t2 t3 : V) (H : Heap) : Option (Out × Heap) := ref04_inner_C base ref04_inner_c (ref04_inner_e base) [(0, t0), (1, t1), (2, t2), (3, t3)] H []
theorem ref04_inner_eq (base : Nat) (t0 t1 t2 t3 : V) (H : Heap) : ref04_inner base t0 t1 t2 t3 H =
 beff (oVar H t0) fun v0 h1 =>
 bnd (oFieldPtr v0 0) fun v2 =>
 bnd (oLoad false 1 h1 v2) fun v3 =>
 bnd (oBin .eql 6 v3 (.int .i64 1)) fun v4 =>
 bnd (gua v4 true (oMove t1) (some (.tup []))) fun v5 =>
 bnd (oPick v4 v5 (.bool false)) fun v6 =>
 bnd (gua v6 false (oFieldPtr v0 0) (some (.tup []))) fun v7 =>
 bnd (gua v6 false (oLoad false 1 h1 v7) (some (.tup []))) fun v8 =>
 bnd (gua v6 false (oBin .eql 6 v8 (.int .i64 2)) (some (.tup []))) fun v9 =>
 bnd (gua v6 false (oMove v9) (some (.tup []))) fun v10 =>
 bnd (gua v10 true (oMove t2) (some (.tup []))) fun v11 =>
 bnd (gua v6 false (oPick v10 v11 (.bool false)) (some (.tup []))) fun v12 =>
 bnd (oPick v6 (.bool true) v12) fun v13 =>
 bnd (gua v13 false (oFieldPtr v0 0) (some (.tup []))) fun v14 =>
 bnd (gua v13 false (oLoad false 1 h1 v14) (some (.tup []))) fun v15 =>
 bnd (gua v13 false (oBin .eql 6 v15 (.int .i64 3)) (some (.tup []))) fun v16 =>
 bnd (gua v13 false (oMove v16) (some (.tup []))) fun v17 =>
 bnd (gua v17 true (oMove t3) (some (.tup []))) fun v18 =>
 bnd (gua v13 false (oPick v17 v18 (.bool false)) (some (.tup []))) fun v19 =>
 bnd (oPick v13 (.bool true) v19) fun v20 =>
 cnd v20
 (bnd (oLoad true 6 h1 v0) fun v21 =>
 bcall (E n_ref04_Text [v21] h1) (fun v22 h23 =>
 bnd (oBin .add 6 (.str [40]) v22) fun v24 =>
 bnd (oBin .add 6 v24 (.str [41])) fun v25 =>
 rt false base v25 h23)
 (fun v22 h23 => pn false base v22 h23))
 (bnd (oLoad true 6 h1 v0) fun v26 =>
 bcall (E n_ref04_Text [v26] h1) (fun v27 h28 =>
 rt false base v27 h28)
 (fun v27 h28 => pn false base v27 h28)) := by kernel_rfl
theorem ref04_inner_E (t0 t1 t2 t3 : V) (H : Heap) : E n_ref04_inner [t0, t1, t2, t3] H = ref04_inner H.length t0 t1 t2 t3 H := (EV_at Tryd.func54 (by kernel_rfl) (by kernel_rfl) (by kernel_rfl)).trans (by kernel_rfl)

def ref04_Digits_c : Code := bodyOf Tryd.f55
def ref04_Digits_ks : Ks := []
def ref04_Digits_e (base : Nat) : KC (Out × Heap) := xEnd Tryd.prog D false base 18 Tryd.f55.results.toList
def ref04_Digits_C (base : Nat) (c : Code) (k : KC (Out × Heap)) (t : Ts) (H : Heap) (d : Ds) : Option (Out × Heap) := xC Tryd.prog base false ref04_Digits_ks E 18 c k t H d
def ref04_Digits (base : Nat) (t0 : V) (H : Heap) : Option (Out × Heap) := ref04_Digits_C base ref04_Digits_c (ref04_Digits_e base) [(0, t0)] H []
theorem ref04_Digits_eq (base : Nat) (t0 : V) (H : Heap) : ref04_Digits base t0 H =
 bnd (oBin .rem 6 t0 (.int .i64 10)) fun v0 =>
 bnd (oBin .add 6 (.int .i64 48) v0) fun v1 =>
 bnd (oIntTo .u8 v1) fun v2 =>
 bnd (oLit 1 1 (.int .u8 0) [(0, v2)]) fun v3 =>
 bnd (oText H v3) fun v4 =>
 bnd (oBin .lss 6 t0 (.int .i64 10)) fun v5 =>
 cnd v5
 (rt false base v4 H)
 (bnd (oBin .quo 6 t0 (.int .i64 10)) fun v6 =>
 bcall (E n_ref04_Digits [v6] H) (fun v7 h8 =>
 bnd (oBin .add 6 v7 v4) fun v9 =>
 rt false base v9 h8)
 (fun v7 h8 => pn false base v7 h8)) := by kernel_rfl
theorem ref04_Digits_E (t0 : V) (H : Heap) : E n_ref04_Digits [t0] H = ref04_Digits H.length t0 H := (EV_at Tryd.func55 (by kernel_rfl) (by kernel_rfl) (by kernel_rfl)).trans (by kernel_rfl)

def ref04_hex_c : Code := bodyOf Tryd.f56
def ref04_hex_ks : Ks := []
def ref04_hex_e (base : Nat) : KC (Out × Heap) := xEnd Tryd.prog D false base 41 Tryd.f56.results.toList
def ref04_hex_C (base : Nat) (c : Code) (k : KC (Out × Heap)) (t : Ts) (H : Heap) (d : Ds) : Option (Out × Heap) := xC Tryd.prog base false ref04_hex_ks E 41 c k t H d
def ref04_hex (base : Nat) (t0 : V) (H : Heap) : Option (Out × Heap) := ref04_hex_C base ref04_hex_c (ref04_hex_e base) [(0, t0)] H []
theorem ref04_hex_eq (base : Nat) (t0 : V) (H : Heap) : ref04_hex base t0 H =
 bnd (oBin .quo 6 t0 (.int .i64 16)) fun v0 =>
 bnd (oBin .rem 6 v0 (.int .i64 16)) fun v1 =>
 bnd (oBin .quo 6 t0 (.int .i64 16)) fun v2 =>
 bnd (oBin .rem 6 v2 (.int .i64 16)) fun v3 =>
 bnd (oBin .add 6 v3 (.int .i64 1)) fun v4 =>
 bnd (oSliceStr (.str [48, 49, 50, 51, 52, 53, 54, 55, 56, 57, 65, 66, 67, 68, 69, 70]) (some v1) (some v4) none) fun v5 =>
 bnd (oBin .rem 6 t0 (.int .i64 16)) fun v6 =>
 bnd (oBin .rem 6 t0 (.int .i64 16)) fun v7 =>
 bnd (oBin .add 6 v7 (.int .i64 1)) fun v8 =>
 bnd (oSliceStr (.str [48, 49, 50, 51, 52, 53, 54, 55, 56, 57, 65, 66, 67, 68, 69, 70]) (some v6) (some v8) none) fun v9 =>
 bnd (oBin .add 6 v5 v9) fun v10 =>
 bnd (oBin .lss 6 t0 (.int .i64 256)) fun v11 =>
 cnd v11
 (rt false base v10 H)
 (bnd (oBin .lss 6 t0 (.int .i64 4096)) fun v12 =>
 cnd v12
 (bnd (oBin .quo 6 t0 (.int .i64 256)) fun v13 =>
 bnd (oBin .quo 6 t0 (.int .i64 256)) fun v14 =>
 bnd (oBin .add 6 v14 (.int .i64 1)) fun v15 =>
 bnd (oSliceStr (.str [48, 49, 50, 51, 52, 53, 54, 55, 56, 57, 65, 66, 67, 68, 69, 70]) (some v13) (some v15) none) fun v16 =>
 bnd (oBin .add 6 v16 v10) fun v17 =>
 rt false base v17 H)
 (bnd (oBin .quo 6 t0 (.int .i64 256)) fun v18 =>
 bcall (E n_ref04_hex [v18] H) (fun v19 h20 =>
 bnd (oBin .add 6 v19 v10) fun v21 =>
 rt false base v21 h20)
 (fun v19 h20 => pn false base v19 h20))) := by kernel_rfl
theorem ref04_hex_E (t0 : V) (H : Heap) : E n_ref04_hex [t0] H = ref04_hex H.length t0 H := (EV_at Tryd.func56 (by kernel_rfl) (by kernel_rfl) (by kernel_rfl)).trans (by kernel_rfl)

def teller_each_api_Expr_c : Code := bodyOf Tryd.f59
def teller_each_api_Expr_ks : Ks := [(3, [1, 5, 11, 12, 13])]
def teller_each_api_Expr_e (base : Nat) : KC (Out × Heap) := xEnd Tryd.prog D false base 26 Tryd.f59.results.toList
def teller_each_api_Expr_C (base : Nat) (c : Code) (k : KC (Out × Heap)) (t : Ts) (H : Heap) (d : Ds) : Option (Out × Heap) := xC Tryd.prog base false teller_each_api_Expr_ks E 26 c k t H d
def teller_each_api_Expr_l1 (base : Nat) (t1 t5 t11 t12 t13 : V) (H : Heap) : Option (Out × Heap) :=
iterL (fun t H d again => teller_each_api_Expr_C base (cAt [1, 1, 0, 1, 0, 0] teller_each_api_Expr_c) (loopK teller_each_api_Expr_ks (cAt [1, 1, 0, 1, 0, 0] teller_each_api_Expr_c) again ((blockK 0 ((seqK (fun _ t => teller_each_api_Expr_C base (cAt [1, 1, 1] teller_each_api_Expr_c) (teller_each_api_Expr_e base) (trimA teller_each_api_Expr_ks (cAt [1, 1, 1] teller_each_api_Expr_c) t)) (teller_each_api_Expr_e base)))))) t H d) [(1, t1), (5, t5), (11, t11), (12, t12), (13, t13)] H []
theorem teller_each_api_Expr_l1_eq (base : Nat) (t1 t5 t11 t12 t13 : V) (H : Heap) : teller_each_api_Expr_l1 base t1 t5 t11 t12 t13 H =
 bnd (oBin .lss 6 t13 t12) fun v4 =>
 cnd v4
 (bnd (oIndexPtr 6 t11 t13) fun v5 =>
 bnd (oLoad true 6 H v5) fun v6 =>
 beff (oVar H (.agg [(.int .i64 0), (.str []), .nils, (.int .i64 0), (.int .i64 0), .nils])) fun v7 h8 =>
 beff (oStore base 6 h8 v7 v6) fun v9 h10 =>
 bnd (oLoad true 6 h10 v7) fun v11 =>
 bcall (oDyn E t1 [v11] h10) (fun v12 h13 =>
 bnd (oIndexPtr 1 t5 t13) fun v14 =>
 beff (oStore base 1 h13 v14 v12) fun v15 h16 =>
 bnd (oBin .add 6 t13 (.int .i64 1)) fun v17 =>
 teller_each_api_Expr_l1 base t1 t5 t11 t12 v17 h16)
 (fun v12 h13 => pn false base v12 h13))
 (rt false base t5 H) := (loop_eq (cAt [1, 1, 0, 1, 0, 0] teller_each_api_Expr_c) ((blockK 0 ((seqK (fun _ t => teller_each_api_Expr_C base (cAt [1, 1, 1] teller_each_api_Expr_c) (teller_each_api_Expr_e base) (trimA teller_each_api_Expr_ks (cAt [1, 1, 1] teller_each_api_Expr_c) t)) (teller_each_api_Expr_e base))))) _ H []).trans (by kernel_rfl)
def teller_each_api_Expr (base : Nat) (t0 t1 : V) (H : Heap) : Option (Out × Heap) := teller_each_api_Expr_C base teller_each_api_Expr_c (teller_each_api_Expr_e base) [(0, t0), (1, t1)] H []
theorem teller_each_api_Expr_eq (base : Nat) (t0 t1 : V) (H : Heap) : teller_each_api_Expr base t0 t1 H =
 bnd (oLenSl t0) fun v0 =>
 beff (oMake 1 false 16 [(.str [])] v0 v0 H) fun v1 h2 =>
 bnd (oLenSl t0) fun v3 =>
 teller_each_api_Expr_l1 base t1 v1 t0 v3 (.int .i64 0) h2 := by kernel_rfl
theorem teller_each_api_Expr_E (t0 t1 : V) (H : Heap) : E n_teller_each_api_Expr [t0, t1] H = teller_each_api_Expr H.length t0 t1 H := (EV_at Tryd.func59 (by kernel_rfl) (by kernel_rfl) (by kernel_rfl)).trans (by kernel_rfl)

def teller_texts_1_c : Code := bodyOf Tryd.f60
def teller_texts_1_ks : Ks := []
def teller_texts_1_e (base : Nat) : KC (Out × Heap) := xEnd Tryd.prog D false base 14 Tryd.f60.results.toList
def teller_texts_1_C (base : Nat) (c : Code) (k : KC (Out × Heap)) (t : Ts) (H : Heap) (d : Ds) : Option (Out × Heap) := xC Tryd.prog base false teller_texts_1_ks E 14 c k t H d
def teller_texts_1 (base : Nat) (t0 t1 : V) (H : Heap) : Option (Out × Heap) := teller_texts_1_C base teller_texts_1_c (teller_texts_1_e base) [(0, t0), (1, t1)] H []
theorem teller_texts_1_eq (base : Nat) (t0 t1 : V) (H : Heap) : teller_texts_1 base t0 t1 H =
 beff (oVar H t0) fun v0 h1 =>
 bnd (oLoad false 1 h1 t1) fun v2 =>
 bnd (oFieldPtr v0 0) fun v3 =>
 bnd (oLoad false 1 h1 v3) fun v4 =>
 bcall (E n_slices_Contains_int_int [v2, v4] h1) (fun v5 h6 =>
 cnd v5
 (bnd (oLoad true 6 h6 v0) fun v7 =>
 bcall (E n_teller_text [v7] h6) (fun v8 h9 =>
 bnd (oBin .add 6 (.str [40]) v8) fun v10 =>
 bnd (oBin .add 6 v10 (.str [41])) fun v11 =>
 rt false base v11 h9)
 (fun v8 h9 => pn false base v8 h9))
 (bnd (oLoad true 6 h6 v0) fun v12 =>
 bcall (E n_teller_text [v12] h6) (fun v13 h14 =>
 rt false base v13 h14)
 (fun v13 h14 => pn false base v13 h14)))
 (fun v5 h6 => pn false base v5 h6) := by kernel_rfl
theorem teller_texts_1_E (t0 t1 : V) (H : Heap) : E n_teller_texts_1 [t0, t1] H = teller_texts_1 H.length t0 t1 H := (EV_at Tryd.func60 (by kernel_rfl) (by kernel_rfl) (by kernel_rfl)).trans (by kernel_rfl)

def slices_Contains_int_int_c : Code := bodyOf Tryd.f61
def slices_Contains_int_int_ks : Ks := []
def slices_Contains_int_int_e (base : Nat) : KC (Out × Heap) := xEnd Tryd.prog D false base 9 Tryd.f61.results.toList
def slices_Contains_int_int_C (base : Nat) (c : Code) (k : KC (Out × Heap)) (t : Ts) (H : Heap) (d : Ds) : Option (Out × Heap) := xC Tryd.prog base false slices_Contains_int_int_ks E 9 c k t H d
def slices_Contains_int_int (base : Nat) (t0 t1 : V) (H : Heap) : Option (Out × Heap) := slices_Contains_int_int_C base slices_Contains_int_int_c (slices_Contains_int_int_e base) [(0, t0), (1, t1)] H []
theorem slices_Contains_int_int_eq (base : Nat) (t0 t1 : V) (H : Heap) : slices_Contains_int_int base t0 t1 H =
 bcall (E n_slices_Index_int_int [t0, t1] H) (fun v0 h1 =>
 bnd (oBin .geq 6 v0 (.int .i64 0)) fun v2 =>
 rt false base v2 h1)
 (fun v0 h1 => pn false base v0 h1) := by kernel_rfl
theorem slices_Contains_int_int_E (t0 t1 : V) (H : Heap) : E n_slices_Contains_int_int [t0, t1] H = slices_Contains_int_int H.length t0 t1 H := (EV_at Tryd.func61 (by kernel_rfl) (by kernel_rfl) (by kernel_rfl)).trans (by kernel_rfl)

def teller_each_int_c : Code := bodyOf Tryd.f63
def teller_each_int_ks : Ks := [(3, [1, 5, 11, 12, 13])]
def teller_each_int_e (base : Nat) : KC (Out × Heap) := xEnd Tryd.prog D false base 26 Tryd.f63.results.toList
def teller_each_int_C (base : Nat) (c : Code) (k : KC (Out × Heap)) (t : Ts) (H : Heap) (d : Ds) : Option (Out × Heap) := xC Tryd.prog base false teller_each_int_ks E 26 c k t H d
def teller_each_int_l1 (base : Nat) (t1 t5 t11 t12 t13 : V) (H : Heap) : Option (Out × Heap) :=
iterL (fun t H d again => teller_each_int_C base (cAt [1, 1, 0, 1, 0, 0] teller_each_int_c) (loopK teller_each_int_ks (cAt [1, 1, 0, 1, 0, 0] teller_each_int_c) again ((blockK 0 ((seqK (fun _ t => teller_each_int_C base (cAt [1, 1, 1] teller_each_int_c) (teller_each_int_e base) (trimA teller_each_int_ks (cAt [1, 1, 1] teller_each_int_c) t)) (teller_each_int_e base)))))) t H d) [(1, t1), (5, t5), (11, t11), (12, t12), (13, t13)] H []
theorem teller_each_int_l1_eq (base : Nat) (t1 t5 t11 t12 t13 : V) (H : Heap) : teller_each_int_l1 base t1 t5 t11 t12 t13 H =
 bnd (oBin .lss 6 t13 t12) fun v4 =>
 cnd v4
 (bnd (oIndexPtr 1 t11 t13) fun v5 =>
 bnd (oLoad false 1 H v5) fun v6 =>
 bcall (oDyn E t1 [v6] H) (fun v7 h8 =>
 bnd (oIndexPtr 1 t5 t13) fun v9 =>
 beff (oStore base 1 h8 v9 v7) fun v10 h11 =>
 bnd (oBin .add 6 t13 (.int .i64 1)) fun v12 =>
 teller_each_int_l1 base t1 t5 t11 t12 v12 h11)
 (fun v7 h8 => pn false base v7 h8))
 (rt false base t5 H) := (loop_eq (cAt [1, 1, 0, 1, 0, 0] teller_each_int_c) ((blockK 0 ((seqK (fun _ t => teller_each_int_C base (cAt [1, 1, 1] teller_each_int_c) (teller_each_int_e base) (trimA teller_each_int_ks (cAt [1, 1, 1] teller_each_int_c) t)) (teller_each_int_e base))))) _ H []).trans (by kernel_rfl)
def teller_each_int (base : Nat) (t0 t1 : V) (H : Heap) : Option (Out × Heap) := teller_each_int_C base teller_each_int_c (teller_each_int_e base) [(0, t0), (1, t1)] H []
theorem teller_each_int_eq (base : Nat) (t0 t1 : V) (H : Heap) : teller_each_int base t0 t1 H =
 bnd (oLenSl t0) fun v0 =>
 beff (oMake 1 false 16 [(.str [])] v0 v0 H) fun v1 h2 =>
 bnd (oLenSl t0) fun v3 =>
 teller_each_int_l1 base t1 v1 t0 v3 (.int .i64 0) h2 := by kernel_rfl
theorem teller_each_int_E (t0 t1 : V) (H : Heap) : E n_teller_each_int [t0, t1] H = teller_each_int H.length t0 t1 H := (EV_at Tryd.func63 (by kernel_rfl) (by kernel_rfl) (by kernel_rfl)).trans (by kernel_rfl)

def teller_digits_c : Code := bodyOf Tryd.f64
def teller_digits_ks : Ks := []
def teller_digits_e (base : Nat) : KC (Out × Heap) := xEnd Tryd.prog D false base 13 Tryd.f64.results.toList
def teller_digits_C (base : Nat) (c : Code) (k : KC (Out × Heap)) (t : Ts) (H : Heap) (d : Ds) : Option (Out × Heap) := xC Tryd.prog base false teller_digits_ks E 13 c k t H d
def teller_digits (base : Nat) (t0 : V) (H : Heap) : Option (Out × Heap) := teller_digits_C base teller_digits_c (teller_digits_e base) [(0, t0)] H []
theorem teller_digits_eq (base : Nat) (t0 : V) (H : Heap) : teller_digits base t0 H =
 bcall (E n_strconv_FormatInt [t0, (.int .i64 16)] H) (fun v0 h1 =>
 bcall (E n_strings_ToUpper [v0] h1) (fun v2 h3 =>
 bnd (oLenStr v2) fun v4 =>
 bnd (oBin .lss 6 v4 (.int .i64 2)) fun v5 =>
 cnd v5
 (bnd (oBin .add 6 (.str [48]) v2) fun v6 =>
 rt false base v6 h3)
 (rt false base v2 h3))
 (fun v2 h3 => pn false base v2 h3))
 (fun v0 h1 => pn false base v0 h1) := by kernel_rfl
theorem teller_digits_E (t0 : V) (H : Heap) : E n_teller_digits [t0] H = teller_digits H.length t0 H := (EV_at Tryd.func64 (by kernel_rfl) (by kernel_rfl) (by kernel_rfl)).trans (by kernel_rfl)

def teller_own_1_c : Code := bodyOf Tryd.f70
def teller_own_1_ks : Ks := []
def teller_own_1_e (base : Nat) : KC (Out × Heap) := xEnd Tryd.prog D false base 9 Tryd.f70.results.toList
def teller_own_1_C (base : Nat) (c : Code) (k : KC (Out × Heap)) (t : Ts) (H : Heap) (d : Ds) : Option (Out × Heap) := xC Tryd.prog base false teller_own_1_ks E 9 c k t H d
def teller_own_1 (base : Nat) (t0 : V) (H : Heap) : Option (Out × Heap) := teller_own_1_C base teller_own_1_c (teller_own_1_e base) [(0, t0)] H []
theorem teller_own_1_eq (base : Nat) (t0 : V) (H : Heap) : teller_own_1 base t0 H =
 bnd (oBin .lss 6 t0 (.int .i64 0)) fun v0 =>
 bnd (gua v0 false (oMove t0) (some (.tup []))) fun v1 =>
 bnd (gua v0 false (oBin .gtr 6 v1 (.int .i64 1114111)) (some (.tup []))) fun v2 =>
 bnd (oPick v0 (.bool true) v2) fun v3 =>
 rt false base v3 H := by kernel_rfl
theorem teller_own_1_E (t0 : V) (H : Heap) : E n_teller_own_1 [t0] H = teller_own_1 H.length t0 H := (EV_at Tryd.func70 (by kernel_rfl) (by kernel_rfl) (by kernel_rfl)).trans (by kernel_rfl)

def teller_folded_c : Code := bodyOf Tryd.f71
def teller_folded_ks : Ks := [(2, [0, 6, 7])]
def teller_folded_e (base : Nat) : KC (Out × Heap) := xEnd Tryd.prog D false base 32 Tryd.f71.results.toList
def teller_folded_C (base : Nat) (c : Code) (k : KC (Out × Heap)) (t : Ts) (H : Heap) (d : Ds) : Option (Out × Heap) := xC Tryd.prog base false teller_folded_ks E 32 c k t H d
def teller_folded_l1 (base : Nat) (t0 t6 t7 : V) (H : Heap) : Option (Out × Heap) :=
iterL (fun t H d again => teller_folded_C base (cAt [1, 0, 1, 0, 0] teller_folded_c) (loopK teller_folded_ks (cAt [1, 0, 1, 0, 0] teller_folded_c) again ((blockK 0 ((seqK (fun _ t => teller_folded_C base (cAt [1, 1] teller_folded_c) (teller_folded_e base) (trimA teller_folded_ks (cAt [1, 1] teller_folded_c) t)) (teller_folded_e base)))))) t H d) [(0, t0), (6, t6), (7, t7)] H []
theorem teller_folded_l1_eq (base : Nat) (t0 t6 t7 : V) (H : Heap) : teller_folded_l1 base t0 t6 t7 H =
 bnd (oBin .lss 6 t7 t6) fun v1 =>
 cnd v1
 (bnd (oIndexStr t0 t7) fun v2 =>
 bnd (oBin .lss 6 v2 (.int .u8 32)) fun v3 =>
 bnd (gua v3 false (oMove v2) (some (.tup []))) fun v4 =>
 bnd (gua v3 false (oBin .gtr 6 v4 (.int .u8 126)) (some (.tup []))) fun v5 =>
 bnd (oPick v3 (.bool true) v5) fun v6 =>
 bnd (gua v6 false (oMove v2) (some (.tup []))) fun v7 =>
 bnd (gua v6 false (oBin .eql 6 v7 (.int .u8 34)) (some (.tup []))) fun v8 =>
 bnd (oPick v6 (.bool true) v8) fun v9 =>
 bnd (gua v9 false (oMove v2) (some (.tup []))) fun v10 =>
 bnd (gua v9 false (oBin .geq 6 v10 (.int .u8 65)) (some (.tup []))) fun v11 =>
 bnd (gua v9 false (oMove v11) (some (.tup []))) fun v12 =>
 bnd (gua v12 true (oMove v2) (some (.tup []))) fun v13 =>
 bnd (gua v12 true (oBin .leq 6 v13 (.int .u8 90)) (some (.tup []))) fun v14 =>
 bnd (gua v9 false (oPick v12 v14 (.bool false)) (some (.tup []))) fun v15 =>
 bnd (oPick v9 (.bool true) v15) fun v16 =>
 cnd v16
 (rt false base (.bool false) H)
 (bnd (oBin .add 6 t7 (.int .i64 1)) fun v17 =>
 teller_folded_l1 base t0 t6 v17 H))
 (rt false base (.bool true) H) := (loop_eq (cAt [1, 0, 1, 0, 0] teller_folded_c) ((blockK 0 ((seqK (fun _ t => teller_folded_C base (cAt [1, 1] teller_folded_c) (teller_folded_e base) (trimA teller_folded_ks (cAt [1, 1] teller_folded_c) t)) (teller_folded_e base))))) _ H []).trans (by kernel_rfl)
def teller_folded (base : Nat) (t0 : V) (H : Heap) : Option (Out × Heap) := teller_folded_C base teller_folded_c (teller_folded_e base) [(0, t0)] H []
theorem teller_folded_eq (base : Nat) (t0 : V) (H : Heap) : teller_folded base t0 H =
 bnd (oLenStr t0) fun v0 =>
 teller_folded_l1 base t0 v0 (.int .i64 0) H := by kernel_rfl
theorem teller_folded_E (t0 : V) (H : Heap) : E n_teller_folded [t0] H = teller_folded H.length t0 H := (EV_at Tryd.func71 (by kernel_rfl) (by kernel_rfl) (by kernel_rfl)).trans (by kernel_rfl)

def slices_ContainsFunc_int_int_c : Code := bodyOf Tryd.f72
def slices_ContainsFunc_int_int_ks : Ks := []
def slices_ContainsFunc_int_int_e (base : Nat) : KC (Out × Heap) := xEnd Tryd.prog D false base 9 Tryd.f72.results.toList
def slices_ContainsFunc_int_int_C (base : Nat) (c : Code) (k : KC (Out × Heap)) (t : Ts) (H : Heap) (d : Ds) : Option (Out × Heap) := xC Tryd.prog base false slices_ContainsFunc_int_int_ks E 9 c k t H d
def slices_ContainsFunc_int_int (base : Nat) (t0 t1 : V) (H : Heap) : Option (Out × Heap) := slices_ContainsFunc_int_int_C base slices_ContainsFunc_int_int_c (slices_ContainsFunc_int_int_e base) [(0, t0), (1, t1)] H []
theorem slices_ContainsFunc_int_int_eq (base : Nat) (t0 t1 : V) (H : Heap) : slices_ContainsFunc_int_int base t0 t1 H =
 bcall (E n_slices_IndexFunc_int_int [t0, t1] H) (fun v0 h1 =>
 bnd (oBin .geq 6 v0 (.int .i64 0)) fun v2 =>
 rt false base v2 h1)
 (fun v0 h1 => pn false base v0 h1) := by kernel_rfl
theorem slices_ContainsFunc_int_int_E (t0 t1 : V) (H : Heap) : E n_slices_ContainsFunc_int_int [t0, t1] H = slices_ContainsFunc_int_int H.length t0 t1 H := (EV_at Tryd.func72 (by kernel_rfl) (by kernel_rfl) (by kernel_rfl)).trans (by kernel_rfl)

def slices_IndexFunc_api_Expr_api_Expr_c : Code := bodyOf Tryd.f73
def slices_IndexFunc_api_Expr_api_Expr_ks : Ks := [(2, [0, 1, 7, 8])]
def slices_IndexFunc_api_Expr_api_Expr_e (base : Nat) : KC (Out × Heap) := xEnd Tryd.prog D false base 19 Tryd.f73.results.toList
def slices_IndexFunc_api_Expr_api_Expr_C (base : Nat) (c : Code) (k : KC (Out × Heap)) (t : Ts) (H : Heap) (d : Ds) : Option (Out × Heap) := xC Tryd.prog base false slices_IndexFunc_api_Expr_api_Expr_ks E 19 c k t H d
def slices_IndexFunc_api_Expr_api_Expr_l1 (base : Nat) (t0 t1 t7 t8 : V) (H : Heap) : Option (Out × Heap) :=
iterL (fun t H d again => slices_IndexFunc_api_Expr_api_Expr_C base (cAt [1, 0, 1, 0, 0] slices_IndexFunc_api_Expr_api_Expr_c) (loopK slices_IndexFunc_api_Expr_api_Expr_ks (cAt [1, 0, 1, 0, 0] slices_IndexFunc_api_Expr_api_Expr_c) again ((blockK 0 ((seqK (fun _ t => slices_IndexFunc_api_Expr_api_Expr_C base (cAt [1, 1] slices_IndexFunc_api_Expr_api_Expr_c) (slices_IndexFunc_api_Expr_api_Expr_e base) (trimA slices_IndexFunc_api_Expr_api_Expr_ks (cAt [1, 1] slices_IndexFunc_api_Expr_api_Expr_c) t)) (slices_IndexFunc_api_Expr_api_Expr_e base)))))) t H d) [(0, t0), (1, t1), (7, t7), (8, t8)] H []
theorem slices_IndexFunc_api_Expr_api_Expr_l1_eq (base : Nat) (t0 t1 t7 t8 : V) (H : Heap) : slices_IndexFunc_api_Expr_api_Expr_l1 base t0 t1 t7 t8 H =
 bnd (oBin .lss 6 t8 t7) fun v1 =>
 cnd v1
 (bnd (oIndexPtr 6 t0 t8) fun v2 =>
 bnd (oLoad true 6 H v2) fun v3 =>
 bcall (oDyn E t1 [v3] H) (fun v4 h5 =>
 cnd v4
 (rt false base t8 h5)
 (bnd (oBin .add 6 t8 (.int .i64 1)) fun v6 =>
 slices_IndexFunc_api_Expr_api_Expr_l1 base t0 t1 t7 v6 h5))
 (fun v4 h5 => pn false base v4 h5))
 (rt false base (.int .i64 (-1)) H) := (loop_eq (cAt [1, 0, 1, 0, 0] slices_IndexFunc_api_Expr_api_Expr_c) ((blockK 0 ((seqK (fun _ t => slices_IndexFunc_api_Expr_api_Expr_C base (cAt [1, 1] slices_IndexFunc_api_Expr_api_Expr_c) (slices_IndexFunc_api_Expr_api_Expr_e base) (trimA slices_IndexFunc_api_Expr_api_Expr_ks (cAt [1, 1] slices_IndexFunc_api_Expr_api_Expr_c) t)) (slices_IndexFunc_api_Expr_api_Expr_e base))))) _ H []).trans (by kernel_rfl)
def slices_IndexFunc_api_Expr_api_Expr (base : Nat) (t0 t1 : V) (H : Heap) : Option (Out × Heap) := slices_IndexFunc_api_Expr_api_Expr_C base slices_IndexFunc_api_Expr_api_Expr_c (slices_IndexFunc_api_Expr_api_Expr_e base) [(0, t0), (1, t1)] H []
theorem slices_IndexFunc_api_Expr_api_Expr_eq (base : Nat) (t0 t1 : V) (H : Heap) : slices_IndexFunc_api_Expr_api_Expr base t0 t1 H =
 bnd (oLenSl t0) fun v0 =>
 slices_IndexFunc_api_Expr_api_Expr_l1 base t0 t1 v0 (.int .i64 0) H := by kernel_rfl
theorem slices_IndexFunc_api_Expr_api_Expr_E (t0 t1 : V) (H : Heap) : E n_slices_IndexFunc_api_Expr_api_Expr [t0, t1] H = slices_IndexFunc_api_Expr_api_Expr H.length t0 t1 H := (EV_at Tryd.func73 (by kernel_rfl) (by kernel_rfl) (by kernel_rfl)).trans (by kernel_rfl)

def slices_Index_int_int_c : Code := bodyOf Tryd.f75
def slices_Index_int_int_ks : Ks := [(2, [0, 1, 7, 8])]
def slices_Index_int_int_e (base : Nat) : KC (Out × Heap) := xEnd Tryd.prog D false base 19 Tryd.f75.results.toList
def slices_Index_int_int_C (base : Nat) (c : Code) (k : KC (Out × Heap)) (t : Ts) (H : Heap) (d : Ds) : Option (Out × Heap) := xC Tryd.prog base false slices_Index_int_int_ks E 19 c k t H d
def slices_Index_int_int_l1 (base : Nat) (t0 t1 t7 t8 : V) (H : Heap) : Option (Out × Heap) :=
iterL (fun t H d again => slices_Index_int_int_C base (cAt [1, 0, 1, 0, 0] slices_Index_int_int_c) (loopK slices_Index_int_int_ks (cAt [1, 0, 1, 0, 0] slices_Index_int_int_c) again ((blockK 0 ((seqK (fun _ t => slices_Index_int_int_C base (cAt [1, 1] slices_Index_int_int_c) (slices_Index_int_int_e base) (trimA slices_Index_int_int_ks (cAt [1, 1] slices_Index_int_int_c) t)) (slices_Index_int_int_e base)))))) t H d) [(0, t0), (1, t1), (7, t7), (8, t8)] H []
theorem slices_Index_int_int_l1_eq (base : Nat) (t0 t1 t7 t8 : V) (H : Heap) : slices_Index_int_int_l1 base t0 t1 t7 t8 H =
 bnd (oBin .lss 6 t8 t7) fun v1 =>
 cnd v1
 (bnd (oIndexPtr 1 t0 t8) fun v2 =>
 bnd (oLoad false 1 H v2) fun v3 =>
 bnd (oBin .eql 6 t1 v3) fun v4 =>
 cnd v4
 (rt false base t8 H)
 (bnd (oBin .add 6 t8 (.int .i64 1)) fun v5 =>
 slices_Index_int_int_l1 base t0 t1 t7 v5 H))
 (rt false base (.int .i64 (-1)) H) := (loop_eq (cAt [1, 0, 1, 0, 0] slices_Index_int_int_c) ((blockK 0 ((seqK (fun _ t => slices_Index_int_int_C base (cAt [1, 1] slices_Index_int_int_c) (slices_Index_int_int_e base) (trimA slices_Index_int_int_ks (cAt [1, 1] slices_Index_int_int_c) t)) (slices_Index_int_int_e base))))) _ H []).trans (by kernel_rfl)
def slices_Index_int_int (base : Nat) (t0 t1 : V) (H : Heap) : Option (Out × Heap) := slices_Index_int_int_C base slices_Index_int_int_c (slices_Index_int_int_e base) [(0, t0), (1, t1)] H []
theorem slices_Index_int_int_eq (base : Nat) (t0 t1 : V) (H : Heap) : slices_Index_int_int base t0 t1 H =
 bnd (oLenSl t0) fun v0 =>
 slices_Index_int_int_l1 base t0 t1 v0 (.int .i64 0) H := by kernel_rfl
theorem slices_Index_int_int_E (t0 t1 : V) (H : Heap) : E n_slices_Index_int_int [t0, t1] H = slices_Index_int_int H.length t0 t1 H := (EV_at Tryd.func75 (by kernel_rfl) (by kernel_rfl) (by kernel_rfl)).trans (by kernel_rfl)

def strconv_FormatInt_c : Code := bodyOf Tryd.f78
def strconv_FormatInt_ks : Ks := []
def strconv_FormatInt_e (base : Nat) : KC (Out × Heap) := xEnd Tryd.prog D false base 8 Tryd.f78.results.toList
def strconv_FormatInt_C (base : Nat) (c : Code) (k : KC (Out × Heap)) (t : Ts) (H : Heap) (d : Ds) : Option (Out × Heap) := xC Tryd.prog base false strconv_FormatInt_ks E 8 c k t H d
def strconv_FormatInt (base : Nat) (t0 t1 : V) (H : Heap) : Option (Out × Heap) := strconv_FormatInt_C base strconv_FormatInt_c (strconv_FormatInt_e base) [(0, t0), (1, t1)] H []
theorem strconv_FormatInt_eq (base : Nat) (t0 t1 : V) (H : Heap) : strconv_FormatInt base t0 t1 H =
 bcall (E n_internal_strconv_FormatInt [t0, t1] H) (fun v0 h1 =>
 rt false base v0 h1)
 (fun v0 h1 => pn false base v0 h1) := by kernel_rfl
theorem strconv_FormatInt_E (t0 t1 : V) (H : Heap) : E n_strconv_FormatInt [t0, t1] H = strconv_FormatInt H.length t0 t1 H := (EV_at Tryd.func78 (by kernel_rfl) (by kernel_rfl) (by kernel_rfl)).trans (by kernel_rfl)

def slices_IndexFunc_int_int_c : Code := bodyOf Tryd.f81
def slices_IndexFunc_int_int_ks : Ks := [(2, [0, 1, 7, 8])]
def slices_IndexFunc_int_int_e (base : Nat) : KC (Out × Heap) := xEnd Tryd.prog D false base 19 Tryd.f81.results.toList
def slices_IndexFunc_int_int_C (base : Nat) (c : Code) (k : KC (Out × Heap)) (t : Ts) (H : Heap) (d : Ds) : Option (Out × Heap) := xC Tryd.prog base false slices_IndexFunc_int_int_ks E 19 c k t H d
def slices_IndexFunc_int_int_l1 (base : Nat) (t0 t1 t7 t8 : V) (H : Heap) : Option (Out × Heap) :=
iterL (fun t H d again => slices_IndexFunc_int_int_C base (cAt [1, 0, 1, 0, 0] slices_IndexFunc_int_int_c) (loopK slices_IndexFunc_int_int_ks (cAt [1, 0, 1, 0, 0] slices_IndexFunc_int_int_c) again ((blockK 0 ((seqK (fun _ t => slices_IndexFunc_int_int_C base (cAt [1, 1] slices_IndexFunc_int_int_c) (slices_IndexFunc_int_int_e base) (trimA slices_IndexFunc_int_int_ks (cAt [1, 1] slices_IndexFunc_int_int_c) t)) (slices_IndexFunc_int_int_e base)))))) t H d) [(0, t0), (1, t1), (7, t7), (8, t8)] H []
theorem slices_IndexFunc_int_int_l1_eq (base : Nat) (t0 t1 t7 t8 : V) (H : Heap) : slices_IndexFunc_int_int_l1 base t0 t1 t7 t8 H =
 bnd (oBin .lss 6 t8 t7) fun v1 =>
 cnd v1
 (bnd (oIndexPtr 1 t0 t8) fun v2 =>
 bnd (oLoad false 1 H v2) fun v3 =>
 bcall (oDyn E t1 [v3] H) (fun v4 h5 =>
 cnd v4
 (rt false base t8 h5)
 (bnd (oBin .add 6 t8 (.int .i64 1)) fun v6 =>
 slices_IndexFunc_int_int_l1 base t0 t1 t7 v6 h5))
 (fun v4 h5 => pn false base v4 h5))
 (rt false base (.int .i64 (-1)) H) := (loop_eq (cAt [1, 0, 1, 0, 0] slices_IndexFunc_int_int_c) ((blockK 0 ((seqK (fun _ t => slices_IndexFunc_int_int_C base (cAt [1, 1] slices_IndexFunc_int_int_c) (slices_IndexFunc_int_int_e base) (trimA slices_IndexFunc_int_int_ks (cAt [1, 1] slices_IndexFunc_int_int_c) t)) (slices_IndexFunc_int_int_e base))))) _ H []).trans (by kernel_rfl)
def slices_IndexFunc_int_int (base : Nat) (t0 t1 : V) (H : Heap) : Option (Out × Heap) := slices_IndexFunc_int_int_C base slices_IndexFunc_int_int_c (slices_IndexFunc_int_int_e base) [(0, t0), (1, t1)] H []
theorem slices_IndexFunc_int_int_eq (base : Nat) (t0 t1 : V) (H : Heap) : slices_IndexFunc_int_int base t0 t1 H =
 bnd (oLenSl t0) fun v0 =>
 slices_IndexFunc_int_int_l1 base t0 t1 v0 (.int .i64 0) H := by kernel_rfl
theorem slices_IndexFunc_int_int_E (t0 t1 : V) (H : Heap) : E n_slices_IndexFunc_int_int [t0, t1] H = slices_IndexFunc_int_int H.length t0 t1 H := (EV_at Tryd.func81 (by kernel_rfl) (by kernel_rfl) (by kernel_rfl)).trans (by kernel_rfl)

def internal_strconv_FormatInt_c : Code := bodyOf Tryd.f83
def internal_strconv_FormatInt_ks : Ks := [(8, [0, 5, 6])]
def internal_strconv_FormatInt_e (base : Nat) : KC (Out × Heap) := xEnd Tryd.prog D false base 54 Tryd.f83.results.toList
def internal_strconv_FormatInt_C (base : Nat) (c : Code) (k : KC (Out × Heap)) (t : Ts) (H : Heap) (d : Ds) : Option (Out × Heap) := xC Tryd.prog base false internal_strconv_FormatInt_ks E 54 c k t H d
def internal_strconv_FormatInt_j1 (base : Nat) (t0 t5 t6 : V) (H : Heap) : Option (Out × Heap) :=
internal_strconv_FormatInt_C base (cAt [1, 0, 1, 0, 1, 1, 1, 1] internal_strconv_FormatInt_c) ((seqK (fun _ t => internal_strconv_FormatInt_C base (cAt [1, 1] internal_strconv_FormatInt_c) (internal_strconv_FormatInt_e base) (trimA internal_strconv_FormatInt_ks (cAt [1, 1] internal_strconv_FormatInt_c) t)) (internal_strconv_FormatInt_e base))) [(0, t0), (5, t5), (6, t6)] H []
theorem internal_strconv_FormatInt_j1_eq (base : Nat) (t0 t5 t6 : V) (H : Heap) : internal_strconv_FormatInt_j1 base t0 t5 t6 H =
 bcall (E n_internal_strconv_numDigits [t6] H) (fun v12 h13 =>
 bnd (oBin .add 6 (.int .i64 1) v12) fun v14 =>
 beff (oSliceA 1 24 false t5 (some (.int .i64 1)) (some v14) none h13) fun v15 h16 =>
 bcall (E n_internal_strconv_formatBase10 [v15, t6] h16) (fun v17 h18 =>
 bnd (oBin .lss 6 t0 (.int .i64 0)) fun v19 =>
 cnd v19
 (bnd (oIndexPtrA 24 1 t5 (.int .i64 0)) fun v20 =>
 beff (oStore base 1 h18 v20 (.int .u8 45)) fun v21 h22 =>
 bnd (oBin .add 6 (.int .i64 1) v12) fun v23 =>
 beff (oSliceA 1 24 false t5 none (some v23) none h22) fun v24 h25 =>
 bnd (oText h25 v24) fun v26 =>
 rt false base v26 h25)
 (bnd (oBin .add 6 (.int .i64 1) v12) fun v27 =>
 beff (oSliceA 1 24 false t5 (some (.int .i64 1)) (some v27) none h18) fun v28 h29 =>
 bnd (oText h29 v28) fun v30 =>
 rt false base v30 h29))
 (fun v17 h18 => pn false base v17 h18))
 (fun v12 h13 => pn false base v12 h13) := by kernel_rfl
def internal_strconv_FormatInt (base : Nat) (t0 t1 : V) (H : Heap) : Option (Out × Heap) := internal_strconv_FormatInt_C base internal_strconv_FormatInt_c (internal_strconv_FormatInt_e base) [(0, t0), (1, t1)] H []
theorem internal_strconv_FormatInt_eq (base : Nat) (t0 t1 : V) (H : Heap) : internal_strconv_FormatInt base t0 t1 H =
 bnd (oBin .eql 6 t1 (.int .i64 10)) fun v0 =>
 cnd v0
 (bnd (oBin .leq 6 (.int .i64 0) t0) fun v1 =>
 bnd (gua v1 true (oMove t0) (some (.tup []))) fun v2 =>
 bnd (gua v1 true (oBin .lss 6 v2 (.int .i64 100)) (some (.tup []))) fun v3 =>
 bnd (oPick v1 v3 (.bool false)) fun v4 =>
 cnd v4
 (bcall (E n_internal_strconv_small [t0] H) (fun v5 h6 =>
 rt false base v5 h6)
 (fun v5 h6 => pn false base v5 h6))
 (beff (oVar H (.agg [(.int .u8 0), (.int .u8 0), (.int .u8 0), (.int .u8 0), (.int .u8 0), (.int .u8 0), (.int .u8 0), (.int .u8 0), (.int .u8 0), (.int .u8 0), (.int .u8 0), (.int .u8 0), (.int .u8 0), (.int .u8 0), (.int .u8 0), (.int .u8 0), (.int .u8 0), (.int .u8 0), (.int .u8 0), (.int .u8 0), (.int .u8 0), (.int .u8 0), (.int .u8 0), (.int .u8 0)])) fun v7 h8 =>
 bnd (oIntTo .u64 t0) fun v9 =>
 bnd (oBin .lss 6 t0 (.int .i64 0)) fun v10 =>
 cnd v10
 (bnd (oUn .neg v9) fun v11 =>
 internal_strconv_FormatInt_j1 base t0 v7 v11 h8)
 (internal_strconv_FormatInt_j1 base t0 v7 v9 h8)))
 (bnd (oIntTo .u64 t0) fun v31 =>
 bnd (oBin .lss 6 t0 (.int .i64 0)) fun v32 =>
 bcall (E n_internal_strconv_formatBits [.nils, v31, t1, v32, (.bool false)] H) (fun v33 h34 =>
 bnd (oExtract v33 0) fun v35 =>
 bnd (oExtract v33 1) fun v36 =>
 rt false base v36 h34)
 (fun v33 h34 => pn false base v33 h34)) := by kernel_rfl
theorem internal_strconv_FormatInt_E (t0 t1 : V) (H : Heap) : E n_internal_strconv_FormatInt [t0, t1] H = internal_strconv_FormatInt H.length t0 t1 H := (EV_at Tryd.func83 (by kernel_rfl) (by kernel_rfl) (by kernel_rfl)).trans (by kernel_rfl)
end
end Go.Proofs.YthcjjicplodhjaaDoor
end

