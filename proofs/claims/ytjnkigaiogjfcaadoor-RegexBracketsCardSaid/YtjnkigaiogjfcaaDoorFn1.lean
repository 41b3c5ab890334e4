/- Fn1: a part of the proof that each law of this seat answers true at every input. No condition. -/
import Derived.Test.YtjnkigaiogjfcaaDoorHint
import Derived.KernelRfl
set_option linter.unusedVariables false
set_option linter.unusedSimpArgs false
set_option maxRecDepth 20000
section
/- Printed: what functions do. -/
namespace Go.Proofs.YtjnkigaiogjfcaaDoor
open Go Go.Ev
set_option linter.unusedVariables false
noncomputable section

def law07_RegexBrackets_c : Code := bodyOf Tryd.f6
def law07_RegexBrackets_ks : Ks := [(10, [5, 6, 7, 8, 9])]
def law07_RegexBrackets_e (base : Nat) : KC (Out × Heap) := xEnd Tryd.prog D false base 89 Tryd.f6.results.toList
def law07_RegexBrackets_C (base : Nat) (c : Code) (k : KC (Out × Heap)) (t : Ts) (H : Heap) (d : Ds) : Option (Out × Heap) := xC Tryd.prog base false law07_RegexBrackets_ks E 89 c k t H d
def law07_RegexBrackets_l1 (base : Nat) (t5 t6 t7 t8 t9 : V) (H : Heap) : Option (Out × Heap) :=
iterL (fun t H d again => law07_RegexBrackets_C base (cAt [1, 1, 1, 1, 1, 1, 1, 0, 1, 0, 0] law07_RegexBrackets_c) (loopK law07_RegexBrackets_ks (cAt [1, 1, 1, 1, 1, 1, 1, 0, 1, 0, 0] law07_RegexBrackets_c) again ((blockK 0 ((seqK (fun _ t => law07_RegexBrackets_C base (cAt [1, 1, 1, 1, 1, 1, 1, 1] law07_RegexBrackets_c) (law07_RegexBrackets_e base) (trimA law07_RegexBrackets_ks (cAt [1, 1, 1, 1, 1, 1, 1, 1] law07_RegexBrackets_c) t)) (law07_RegexBrackets_e base)))))) t H d) [(5, t5), (6, t6), (7, t7), (8, t8), (9, t9)] H []
theorem law07_RegexBrackets_l1_eq (base : Nat) (t5 t6 t7 t8 t9 : V) (H : Heap) : law07_RegexBrackets_l1 base t5 t6 t7 t8 t9 H =
 bnd (oBin .geq 6 t9 (.int .i64 0)) fun v14 =>
 cnd v14
 (bnd (oIndexPtr 6 t6 t9) fun v15 =>
 bnd (oLoad true 6 H v15) fun v16 =>
 bnd (oIndexPtr 6 t6 (.int .i64 0)) fun v17 =>
 bnd (oLoad true 6 H v17) fun v18 =>
 bnd (oLit 6 2 (.agg [(.int .i64 0), (.int .u64 0), (.int .u64 0), (.int .u64 0), (.int .u64 0), (.vs [])]) [(0, v16), (1, v18)]) fun v19 =>
 beff (oAppend base 6 64 true t8 v19 H) fun v20 h21 =>
 bnd (oBin .sub 6 t9 (.int .i64 1)) fun v22 =>
 law07_RegexBrackets_l1 base t5 t6 t7 v20 v22 h21)
 (bcall (E n_regex_Cat [t6] H) (fun v23 h24 =>
 bcall (E n_regex_Text [v23] h24) (fun v25 h26 =>
 bcall (E n_regex_Either [t6] h26) (fun v27 h28 =>
 bcall (E n_regex_Text [v27] h28) (fun v29 h30 =>
 bnd (gua t5 true (oMove v25) (some (.tup []))) fun v31 =>
 bnd (gua t5 true (oMove t6) (some (.tup []))) fun v32 =>
 bnd (gua t5 true (oMove t7) (some (.tup []))) fun v33 =>
 bnd (gua t5 true (oSlice 6 v32 none (some v33) none) (some (.tup []))) fun v34 =>
 bcall (gua t5 true (E n_regex_Cat [v34] h30) (some (.ret (.tup []), h30))) (fun v35 h36 =>
 bnd (gua t5 true (oMove t6) (some (.tup []))) fun v37 =>
 bnd (gua t5 true (oMove t7) (some (.tup []))) fun v38 =>
 bnd (gua t5 true (oSlice 6 v37 (some v38) none none) (some (.tup []))) fun v39 =>
 bcall (gua t5 true (E n_regex_Cat [v39] h36) (some (.ret (.tup []), h36))) (fun v40 h41 =>
 bnd (gua t5 true (oLit 6 2 (.agg [(.int .i64 0), (.int .u64 0), (.int .u64 0), (.int .u64 0), (.int .u64 0), (.vs [])]) [(0, v35), (1, v40)]) (some (.tup []))) fun v42 =>
 bcall (gua t5 true (E n_regex_Cat [v42] h41) (some (.ret (.tup []), h41))) (fun v43 h44 =>
 bcall (gua t5 true (E n_regex_Text [v43] h44) (some (.ret (.tup []), h44))) (fun v45 h46 =>
 bnd (gua t5 true (oBin .eql 6 v31 v45) (some (.tup []))) fun v47 =>
 bnd (oPick t5 v47 (.bool false)) fun v48 =>
 bnd (gua v48 true (oMove v29) (some (.tup []))) fun v49 =>
 bnd (gua v48 true (oMove t6) (some (.tup []))) fun v50 =>
 bnd (gua v48 true (oMove t7) (some (.tup []))) fun v51 =>
 bnd (gua v48 true (oSlice 6 v50 none (some v51) none) (some (.tup []))) fun v52 =>
 bcall (gua v48 true (E n_regex_Either [v52] h46) (some (.ret (.tup []), h46))) (fun v53 h54 =>
 bnd (gua v48 true (oMove t6) (some (.tup []))) fun v55 =>
 bnd (gua v48 true (oMove t7) (some (.tup []))) fun v56 =>
 bnd (gua v48 true (oSlice 6 v55 (some v56) none none) (some (.tup []))) fun v57 =>
 bcall (gua v48 true (E n_regex_Either [v57] h54) (some (.ret (.tup []), h54))) (fun v58 h59 =>
 bnd (gua v48 true (oLit 6 2 (.agg [(.int .i64 0), (.int .u64 0), (.int .u64 0), (.int .u64 0), (.int .u64 0), (.vs [])]) [(0, v53), (1, v58)]) (some (.tup []))) fun v60 =>
 bcall (gua v48 true (E n_regex_Either [v60] h59) (some (.ret (.tup []), h59))) (fun v61 h62 =>
 bcall (gua v48 true (E n_regex_Text [v61] h62) (some (.ret (.tup []), h62))) (fun v63 h64 =>
 bnd (gua v48 true (oBin .eql 6 v49 v63) (some (.tup []))) fun v65 =>
 bnd (oPick v48 v65 (.bool false)) fun v66 =>
 bnd (gua v66 true (oMove v29) (some (.tup []))) fun v67 =>
 bnd (gua v66 true (oMove t8) (some (.tup []))) fun v68 =>
 bcall (gua v66 true (E n_regex_Either [v68] h64) (some (.ret (.tup []), h64))) (fun v69 h70 =>
 bcall (gua v66 true (E n_regex_Text [v69] h70) (some (.ret (.tup []), h70))) (fun v71 h72 =>
 bnd (gua v66 true (oBin .eql 6 v67 v71) (some (.tup []))) fun v73 =>
 bnd (oPick v66 v73 (.bool false)) fun v74 =>
 rt false base v74 h72)
 (fun v71 h72 => pn false base v71 h72))
 (fun v69 h70 => pn false base v69 h70))
 (fun v63 h64 => pn false base v63 h64))
 (fun v61 h62 => pn false base v61 h62))
 (fun v58 h59 => pn false base v58 h59))
 (fun v53 h54 => sch (tlb (gua v48 true (oMove t6) (some (.tup []))) fun v75 => tlb (gua v48 true (oMove t7) (some (.tup []))) fun v76 => tlb (gua v48 true (oSlice 6 v75 (some v76) none none) (some (.tup []))) fun v77 => true) (pn false base v53 h54)))
 (fun v45 h46 => pn false base v45 h46))
 (fun v43 h44 => pn false base v43 h44))
 (fun v40 h41 => pn false base v40 h41))
 (fun v35 h36 => sch (tlb (gua t5 true (oMove t6) (some (.tup []))) fun v78 => tlb (gua t5 true (oMove t7) (some (.tup []))) fun v79 => tlb (gua t5 true (oSlice 6 v78 (some v79) none none) (some (.tup []))) fun v80 => true) (pn false base v35 h36)))
 (fun v29 h30 => pn false base v29 h30))
 (fun v27 h28 => pn false base v27 h28))
 (fun v25 h26 => pn false base v25 h26))
 (fun v23 h24 => pn false base v23 h24)) := (loop_eq (cAt [1, 1, 1, 1, 1, 1, 1, 0, 1, 0, 0] law07_RegexBrackets_c) ((blockK 0 ((seqK (fun _ t => law07_RegexBrackets_C base (cAt [1, 1, 1, 1, 1, 1, 1, 1] law07_RegexBrackets_c) (law07_RegexBrackets_e base) (trimA law07_RegexBrackets_ks (cAt [1, 1, 1, 1, 1, 1, 1, 1] law07_RegexBrackets_c) t)) (law07_RegexBrackets_e base))))) _ H []).trans (by kernel_rfl)
def law07_RegexBrackets (base : Nat) (t0 t1 : V) (H : Heap) : Option (Out × Heap) := law07_RegexBrackets_C base law07_RegexBrackets_c (law07_RegexBrackets_e base) [(0, t0), (1, t1)] H []
theorem law07_RegexBrackets_eq (base : Nat) (t0 t1 : V) (H : Heap) : law07_RegexBrackets base t0 t1 H =
 bcall (E n_law07_awake [] H) (fun v0 h1 =>
 bnd (oUn .not v0) fun v2 =>
 cnd v2
 (rt false base (.bool false) h1)
 (bcall (E n_law07_Few [t0] h1) (fun v3 h4 =>
 bnd (oLenSl v3) fun v5 =>
 bnd (oBin .lss 6 v5 (.int .i64 2)) fun v6 =>
 cnd v6
 (rt false base v0 h4)
 (bnd (oIntTo .i64 t1) fun v7 =>
 bnd (oLenSl v3) fun v8 =>
 bnd (oBin .sub 6 v8 (.int .i64 1)) fun v9 =>
 bnd (oBin .rem 6 v7 v9) fun v10 =>
 bnd (oBin .add 6 (.int .i64 1) v10) fun v11 =>
 bnd (oLenSl v3) fun v12 =>
 bnd (oBin .sub 6 v12 (.int .i64 1)) fun v13 =>
 law07_RegexBrackets_l1 base v0 v3 v11 .nils v13 h4))
 (fun v3 h4 => pn false base v3 h4)))
 (fun v0 h1 => pn false base v0 h1) := by kernel_rfl
theorem law07_RegexBrackets_E (t0 t1 : V) (H : Heap) : E n_law07_RegexBrackets [t0, t1] H = law07_RegexBrackets H.length t0 t1 H := (EV_at Tryd.func6 (by kernel_rfl) (by kernel_rfl) (by kernel_rfl)).trans (by kernel_rfl)

def law07_awake_c : Code := bodyOf Tryd.f9
def law07_awake_ks : Ks := []
def law07_awake_e (base : Nat) : KC (Out × Heap) := xEnd Tryd.prog D false base 46 Tryd.f9.results.toList
def law07_awake_C (base : Nat) (c : Code) (k : KC (Out × Heap)) (t : Ts) (H : Heap) (d : Ds) : Option (Out × Heap) := xC Tryd.prog base false law07_awake_ks E 46 c k t H d
def law07_awake (base : Nat) (H : Heap) : Option (Out × Heap) := law07_awake_C base law07_awake_c (law07_awake_e base) [] H []
theorem law07_awake_eq (base : Nat) (H : Heap) : law07_awake base  H =
 bcall (E n_law07_letter [(.int .i64 97), (.int .i64 97)] H) (fun v0 h1 =>
 bcall (E n_law07_letter [(.int .i64 98), (.int .i64 98)] h1) (fun v2 h3 =>
 beff (oVar h3 (.agg [(.int .i64 0), (.int .u64 0), (.int .u64 0), (.int .u64 0), (.int .u64 0), .nils])) fun v4 h5 =>
 beff (oVar h5 (.agg [(.int .i64 0), (.int .u64 0), (.int .u64 0), (.int .u64 0), (.int .u64 0), .nils])) fun v6 h7 =>
 beff (oStore base 6 h7 v4 v0) fun v8 h9 =>
 beff (oStore base 6 h9 v6 v2) fun v10 h11 =>
 bnd (oLoad true 6 h11 v4) fun v12 =>
 bnd (oLoad true 6 h11 v6) fun v13 =>
 bnd (oLit 6 2 (.agg [(.int .i64 0), (.int .u64 0), (.int .u64 0), (.int .u64 0), (.int .u64 0), (.vs [])]) [(0, v12), (1, v13)]) fun v14 =>
 bcall (E n_regex_Either [v14] h11) (fun v15 h16 =>
 beff (oVar h16 (.agg [(.int .i64 0), (.int .u64 0), (.int .u64 0), (.int .u64 0), (.int .u64 0), .nils])) fun v17 h18 =>
 beff (oStore base 6 h18 v17 v15) fun v19 h20 =>
 bnd (oBuild [(.int .i64 0), (.int .u64 0), (.int .u64 0), (.int .u64 0), (.int .u64 0), .nils] [(0, 1), (1, 4), (5, 1)] [(0, (.int .i64 1))]) fun v21 =>
 bnd (oLoad true 6 h20 v4) fun v22 =>
 bcall (E n_regex_Star [v22] h20) (fun v23 h24 =>
 bnd (oLit 6 2 (.agg [(.int .i64 0), (.int .u64 0), (.int .u64 0), (.int .u64 0), (.int .u64 0), (.vs [])]) [(0, v21), (1, v23)]) fun v25 =>
 bcall (E n_regex_Cat [v25] h24) (fun v26 h27 =>
 beff (oVar h27 (.agg [(.int .i64 0), (.int .u64 0), (.int .u64 0), (.int .u64 0), (.int .u64 0), .nils])) fun v28 h29 =>
 beff (oStore base 6 h29 v28 v26) fun v30 h31 =>
 bnd (oLoad true 6 h31 v17) fun v32 =>
 bcall (E n_regex_Text [v32] h31) (fun v33 h34 =>
 bnd (oBin .eql 6 v33 (.str [91, 57, 55, 45, 57, 56, 93])) fun v35 =>
 bnd (gua v35 true (oLoad true 6 h34 v28) (some (.tup []))) fun v36 =>
 bcall (gua v35 true (E n_regex_Text [v36] h34) (some (.ret (.tup []), h34))) (fun v37 h38 =>
 bnd (gua v35 true (oBin .eql 6 v37 (.str [91, 57, 55, 45, 57, 55, 93, 42])) (some (.tup []))) fun v39 =>
 bnd (oPick v35 v39 (.bool false)) fun v40 =>
 bnd (gua v40 true (oLoad true 6 h38 v28) (some (.tup []))) fun v41 =>
 bcall (gua v40 true (E n_regex_Right [v41] h38) (some (.ret (.tup []), h38))) (fun v42 h43 =>
 bnd (oPick v40 v42 (.bool false)) fun v44 =>
 bnd (gua v44 true (oBuild [(.int .i64 0), (.int .u64 0), (.int .u64 0), (.int .u64 0), (.int .u64 0), .nils] [(0, 1), (1, 4), (5, 1)] [(0, (.int .i64 3))]) (some (.tup []))) fun v45 =>
 bcall (gua v44 true (E n_regex_Right [v45] h43) (some (.ret (.tup []), h43))) (fun v46 h47 =>
 bnd (gua v44 true (oUn .not v46) (some (.tup []))) fun v48 =>
 bnd (oPick v44 v48 (.bool false)) fun v49 =>
 bnd (gua v49 true (oBuildA [(.int .u64 0), (.int .u64 0), (.int .u64 0), (.int .u64 0)] 1 []) (some (.tup []))) fun v50 =>
 bcall (gua v49 true (E n_regex_Of [v50] h47) (some (.ret (.tup []), h47))) (fun v51 h52 =>
 bnd (gua v49 true (oField 0 false 1 v51) (some (.tup []))) fun v53 =>
 bnd (gua v49 true (oBin .eql 6 v53 (.int .i64 0)) (some (.tup []))) fun v54 =>
 bnd (oPick v49 v54 (.bool false)) fun v55 =>
 bnd (gua v55 true (oFieldPtr v4 1) (some (.tup []))) fun v56 =>
 bnd (gua v55 true (oLoad true 4 h52 v56) (some (.tup []))) fun v57 =>
 bcall (gua v55 true (E n_regex_Of [v57] h52) (some (.ret (.tup []), h52))) (fun v58 h59 =>
 bnd (gua v55 true (oField 0 false 1 v58) (some (.tup []))) fun v60 =>
 bnd (gua v55 true (oBin .eql 6 v60 (.int .i64 2)) (some (.tup []))) fun v61 =>
 bnd (oPick v55 v61 (.bool false)) fun v62 =>
 rt false base v62 h59)
 (fun v58 h59 => pn false base v58 h59))
 (fun v51 h52 => pn false base v51 h52))
 (fun v46 h47 => pn false base v46 h47))
 (fun v42 h43 => pn false base v42 h43))
 (fun v37 h38 => pn false base v37 h38))
 (fun v33 h34 => pn false base v33 h34))
 (fun v26 h27 => pn false base v26 h27))
 (fun v23 h24 => pn false base v23 h24))
 (fun v15 h16 => pn false base v15 h16))
 (fun v2 h3 => pn false base v2 h3))
 (fun v0 h1 => pn false base v0 h1) := by kernel_rfl
theorem law07_awake_E (H : Heap) : E n_law07_awake [] H = law07_awake H.length  H := (EV_at Tryd.func9 (by kernel_rfl) (by kernel_rfl) (by kernel_rfl)).trans (by kernel_rfl)

def regex_Of_c : Code := bodyOf Tryd.f12
def regex_Of_ks : Ks := []
def regex_Of_e (base : Nat) : KC (Out × Heap) := xEnd Tryd.prog D false base 9 Tryd.f12.results.toList
def regex_Of_C (base : Nat) (c : Code) (k : KC (Out × Heap)) (t : Ts) (H : Heap) (d : Ds) : Option (Out × Heap) := xC Tryd.prog base false regex_Of_ks E 9 c k t H d
def regex_Of (base : Nat) (t0 : V) (H : Heap) : Option (Out × Heap) := regex_Of_C base regex_Of_c (regex_Of_e base) [(0, t0)] H []
theorem regex_Of_eq (base : Nat) (t0 : V) (H : Heap) : regex_Of base t0 H =
 beff (oVar H t0) fun v0 h1 =>
 beff (oVar h1 (.agg [(.int .i64 0), (.int .u64 0), (.int .u64 0), (.int .u64 0), (.int .u64 0), .nils])) fun v2 h3 =>
 bnd (oLoad true 4 h3 v0) fun v4 =>
 bnd (oBuildA [(.int .u64 0), (.int .u64 0), (.int .u64 0), (.int .u64 0)] 1 []) fun v5 =>
 bnd (oBin .eql 46 v4 v5) fun v6 =>
 cnd v6
 (bnd (oBuild [(.int .i64 0), (.int .u64 0), (.int .u64 0), (.int .u64 0), (.int .u64 0), .nils] [(0, 1), (1, 4), (5, 1)] [(0, (.int .i64 0))]) fun v7 =>
 beff (oStore base 6 h3 v2 v7) fun v8 h9 =>
 bnd (oLoad true 6 h9 v2) fun v10 =>
 rt false base v10 h9)
 (bnd (oLoad true 4 h3 v0) fun v11 =>
 bnd (oBuild [(.int .i64 0), (.int .u64 0), (.int .u64 0), (.int .u64 0), (.int .u64 0), .nils] [(0, 1), (1, 4), (5, 1)] [(0, (.int .i64 2)), (1, v11)]) fun v12 =>
 beff (oStore base 6 h3 v2 v12) fun v13 h14 =>
 bnd (oLoad true 6 h14 v2) fun v15 =>
 rt false base v15 h14) := by kernel_rfl
theorem regex_Of_E (t0 : V) (H : Heap) : E n_regex_Of [t0] H = regex_Of H.length t0 H := (EV_at Tryd.func12 (by kernel_rfl) (by kernel_rfl) (by kernel_rfl)).trans (by kernel_rfl)

def ref07_Of_c : Code := bodyOf Tryd.f13
def ref07_Of_ks : Ks := []
def ref07_Of_e (base : Nat) : KC (Out × Heap) := xEnd Tryd.prog D false base 9 Tryd.f13.results.toList
def ref07_Of_C (base : Nat) (c : Code) (k : KC (Out × Heap)) (t : Ts) (H : Heap) (d : Ds) : Option (Out × Heap) := xC Tryd.prog base false ref07_Of_ks E 9 c k t H d
def ref07_Of (base : Nat) (t0 : V) (H : Heap) : Option (Out × Heap) := ref07_Of_C base ref07_Of_c (ref07_Of_e base) [(0, t0)] H []
theorem ref07_Of_eq (base : Nat) (t0 : V) (H : Heap) : ref07_Of base t0 H =
 beff (oVar H t0) fun v0 h1 =>
 beff (oVar h1 (.agg [(.int .i64 0), (.int .u64 0), (.int .u64 0), (.int .u64 0), (.int .u64 0), .nils])) fun v2 h3 =>
 bnd (oLoad true 4 h3 v0) fun v4 =>
 bcall (E n_ref01_Count [v4] h3) (fun v5 h6 =>
 bnd (oBin .eql 6 v5 (.int .i64 0)) fun v7 =>
 cnd v7
 (bnd (oBuild [(.int .i64 0), (.int .u64 0), (.int .u64 0), (.int .u64 0), (.int .u64 0), .nils] [(0, 1), (1, 4), (5, 1)] []) fun v8 =>
 beff (oStore base 6 h6 v2 v8) fun v9 h10 =>
 bnd (oLoad true 6 h10 v2) fun v11 =>
 rt false base v11 h10)
 (bnd (oLoad true 4 h6 v0) fun v12 =>
 bnd (oBuild [(.int .i64 0), (.int .u64 0), (.int .u64 0), (.int .u64 0), (.int .u64 0), .nils] [(0, 1), (1, 4), (5, 1)] [(0, (.int .i64 2)), (1, v12)]) fun v13 =>
 beff (oStore base 6 h6 v2 v13) fun v14 h15 =>
 bnd (oLoad true 6 h15 v2) fun v16 =>
 rt false base v16 h15))
 (fun v5 h6 => pn false base v5 h6) := by kernel_rfl
theorem ref07_Of_E (t0 : V) (H : Heap) : E n_ref07_Of [t0] H = ref07_Of H.length t0 H := (EV_at Tryd.func13 (by kernel_rfl) (by kernel_rfl) (by kernel_rfl)).trans (by kernel_rfl)

def law07_Few_c : Code := bodyOf Tryd.f14
def law07_Few_ks : Ks := []
def law07_Few_e (base : Nat) : KC (Out × Heap) := xEnd Tryd.prog D false base 11 Tryd.f14.results.toList
def law07_Few_C (base : Nat) (c : Code) (k : KC (Out × Heap)) (t : Ts) (H : Heap) (d : Ds) : Option (Out × Heap) := xC Tryd.prog base false law07_Few_ks E 11 c k t H d
def law07_Few (base : Nat) (t0 : V) (H : Heap) : Option (Out × Heap) := law07_Few_C base law07_Few_c (law07_Few_e base) [(0, t0)] H []
theorem law07_Few_eq (base : Nat) (t0 : V) (H : Heap) : law07_Few base t0 H =
 bnd (oBuild [.nils, (.int .i64 0)] [(0, 1), (1, 1)] [(0, t0)]) fun v0 =>
 beff (oVar H v0) fun v1 h2 =>
 bcall (E n_law07_picker_pick [v1, (.int .i64 5)] h2) (fun v3 h4 =>
 bcall (E n_law07_picker_some [v1, v3, (.int .i64 3)] h4) (fun v5 h6 =>
 rt false base v5 h6)
 (fun v5 h6 => pn false base v5 h6))
 (fun v3 h4 => pn false base v3 h4) := by kernel_rfl
theorem law07_Few_E (t0 : V) (H : Heap) : E n_law07_Few [t0] H = law07_Few H.length t0 H := (EV_at Tryd.func14 (by kernel_rfl) (by kernel_rfl) (by kernel_rfl)).trans (by kernel_rfl)

def ref01_Of_c : Code := bodyOf Tryd.f15
def ref01_Of_ks : Ks := [(3, [0, 1, 4, 5, 6]), (4, [0, 1, 4, 5, 6])]
def ref01_Of_e (base : Nat) : KC (Out × Heap) := xEnd Tryd.prog D false base 23 Tryd.f15.results.toList
def ref01_Of_C (base : Nat) (c : Code) (k : KC (Out × Heap)) (t : Ts) (H : Heap) (d : Ds) : Option (Out × Heap) := xC Tryd.prog base false ref01_Of_ks E 23 c k t H d
def ref01_Of_l1 (base : Nat) (t0 t1 t4 t5 t6 : V) (H : Heap) : Option (Out × Heap) :=
iterL (fun t H d again => ref01_Of_C base (cAt [1, 1, 0, 1, 0, 0] ref01_Of_c) (loopK ref01_Of_ks (cAt [1, 1, 0, 1, 0, 0] ref01_Of_c) again ((blockK 0 ((seqK (fun _ t => ref01_Of_C base (cAt [1, 1, 1] ref01_Of_c) (ref01_Of_e base) (trimA ref01_Of_ks (cAt [1, 1, 1] ref01_Of_c) t)) (ref01_Of_e base)))))) t H d) [(0, t0), (1, t1), (4, t4), (5, t5), (6, t6)] H []
def ref01_Of_j2 (base : Nat) (t0 t1 t4 t5 t6 : V) (H : Heap) : Option (Out × Heap) :=
ref01_Of_C base (cAt [1, 1, 0, 1, 0, 0, 1, 1] ref01_Of_c) ((loopK ref01_Of_ks (cAt [1, 1, 0, 1, 0, 0] ref01_Of_c) (iterL (fun t H d again => ref01_Of_C base (cAt [1, 1, 0, 1, 0, 0] ref01_Of_c) (loopK ref01_Of_ks (cAt [1, 1, 0, 1, 0, 0] ref01_Of_c) again ((blockK 0 ((seqK (fun _ t => ref01_Of_C base (cAt [1, 1, 1] ref01_Of_c) (ref01_Of_e base) (trimA ref01_Of_ks (cAt [1, 1, 1] ref01_Of_c) t)) (ref01_Of_e base)))))) t H d)) ((blockK 0 ((seqK (fun _ t => ref01_Of_C base (cAt [1, 1, 1] ref01_Of_c) (ref01_Of_e base) (trimA ref01_Of_ks (cAt [1, 1, 1] ref01_Of_c) t)) (ref01_Of_e base))))))) [(0, t0), (1, t1), (4, t4), (5, t5), (6, t6)] H []
theorem ref01_Of_j2_eq (base : Nat) (t0 t1 t4 t5 t6 : V) (H : Heap) : ref01_Of_j2 base t0 t1 t4 t5 t6 H =
 bnd (oBin .add 6 t6 (.int .i64 1)) fun v15 =>
 ref01_Of_l1 base t0 t1 t4 t5 v15 H := by kernel_rfl
theorem ref01_Of_l1_eq (base : Nat) (t0 t1 t4 t5 t6 : V) (H : Heap) : ref01_Of_l1 base t0 t1 t4 t5 t6 H =
 bnd (oBin .lss 6 t6 (.int .i64 256)) fun v4 =>
 cnd v4
 (bnd (oBin .geq 6 t6 t0) fun v5 =>
 bnd (gua v5 true (oMove t6) (some (.tup []))) fun v6 =>
 bnd (gua v5 true (oMove t1) (some (.tup []))) fun v7 =>
 bnd (gua v5 true (oBin .leq 6 v6 v7) (some (.tup []))) fun v8 =>
 bnd (oPick v5 v8 (.bool false)) fun v9 =>
 cnd v9
 (bnd (oLoad true 4 H t5) fun v10 =>
 bcall (E n_ref01_with [v10, t6] H) (fun v11 h12 =>
 beff (oStore base 4 h12 t5 v11) fun v13 h14 =>
 ref01_Of_j2 base t0 t1 t4 t5 t6 h14)
 (fun v11 h12 => pn false base v11 h12))
 (ref01_Of_j2 base t0 t1 t4 t5 t6 H))
 (bnd (oLoad true 4 H t5) fun v16 =>
 beff (oStore base 4 H t4 v16) fun v17 h18 =>
 bnd (oLoad true 4 h18 t4) fun v19 =>
 rt false base v19 h18) := (loop_eq (cAt [1, 1, 0, 1, 0, 0] ref01_Of_c) ((blockK 0 ((seqK (fun _ t => ref01_Of_C base (cAt [1, 1, 1] ref01_Of_c) (ref01_Of_e base) (trimA ref01_Of_ks (cAt [1, 1, 1] ref01_Of_c) t)) (ref01_Of_e base))))) _ H []).trans (by kernel_rfl)
def ref01_Of (base : Nat) (t0 t1 : V) (H : Heap) : Option (Out × Heap) := ref01_Of_C base ref01_Of_c (ref01_Of_e base) [(0, t0), (1, t1)] H []
theorem ref01_Of_eq (base : Nat) (t0 t1 : V) (H : Heap) : ref01_Of base t0 t1 H =
 beff (oVar H (.agg [(.int .u64 0), (.int .u64 0), (.int .u64 0), (.int .u64 0)])) fun v0 h1 =>
 beff (oVar h1 (.agg [(.int .u64 0), (.int .u64 0), (.int .u64 0), (.int .u64 0)])) fun v2 h3 =>
 ref01_Of_l1 base t0 t1 v0 v2 (.int .i64 0) h3 := by kernel_rfl
theorem ref01_Of_E (t0 t1 : V) (H : Heap) : E n_ref01_Of [t0, t1] H = ref01_Of H.length t0 t1 H := (EV_at Tryd.func15 (by kernel_rfl) (by kernel_rfl) (by kernel_rfl)).trans (by kernel_rfl)

def regex_Right_c : Code := bodyOf Tryd.f16
def regex_Right_ks : Ks := [(15, [])]
def regex_Right_e (base : Nat) : KC (Out × Heap) := xEnd Tryd.prog D false base 79 Tryd.f16.results.toList
def regex_Right_C (base : Nat) (c : Code) (k : KC (Out × Heap)) (t : Ts) (H : Heap) (d : Ds) : Option (Out × Heap) := xC Tryd.prog base false regex_Right_ks E 79 c k t H d
def regex_Right_j1 (base : Nat) (H : Heap) : Option (Out × Heap) :=
regex_Right_C base (cAt [1, 1, 1] regex_Right_c) (regex_Right_e base) [] H []
theorem regex_Right_j1_eq (base : Nat) (H : Heap) : regex_Right_j1 base  H =
 rt false base (.bool false) H := by kernel_rfl
def regex_Right (base : Nat) (t0 : V) (H : Heap) : Option (Out × Heap) := regex_Right_C base regex_Right_c (regex_Right_e base) [(0, t0)] H []
theorem regex_Right_eq (base : Nat) (t0 : V) (H : Heap) : regex_Right base t0 H =
 beff (oVar H t0) fun v0 h1 =>
 bnd (oFieldPtr v0 5) fun v2 =>
 bnd (oLoad false 1 h1 v2) fun v3 =>
 bcall (E n_slices_ContainsFunc_api_Re_api_Re [v3, (.fn n_regex_Right_1 [])] h1) (fun v4 h5 =>
 bnd (gua v4 false (oFieldPtr v0 0) (some (.tup []))) fun v6 =>
 bnd (gua v4 false (oLoad false 1 h5 v6) (some (.tup []))) fun v7 =>
 bnd (gua v4 false (oBin .neq 6 v7 (.int .i64 2)) (some (.tup []))) fun v8 =>
 bnd (gua v4 false (oMove v8) (some (.tup []))) fun v9 =>
 bnd (gua v9 true (oFieldPtr v0 1) (some (.tup []))) fun v10 =>
 bnd (gua v9 true (oLoad true 4 h5 v10) (some (.tup []))) fun v11 =>
 bnd (gua v9 true (oBuildA [(.int .u64 0), (.int .u64 0), (.int .u64 0), (.int .u64 0)] 1 []) (some (.tup []))) fun v12 =>
 bnd (gua v9 true (oBin .neq 46 v11 v12) (some (.tup []))) fun v13 =>
 bnd (gua v4 false (oPick v9 v13 (.bool false)) (some (.tup []))) fun v14 =>
 bnd (oPick v4 (.bool true) v14) fun v15 =>
 cnd v15
 (rt false base (.bool false) h5)
 (bnd (oFieldPtr v0 0) fun v16 =>
 bnd (oLoad false 1 h5 v16) fun v17 =>
 bnd (oBin .eql 6 v17 (.int .i64 0)) fun v18 =>
 cnd v18
 (cnd v18
 (bnd (oFieldPtr v0 5) fun v19 =>
 bnd (oLoad false 1 h5 v19) fun v20 =>
 bnd (oLenSl v20) fun v21 =>
 bnd (oBin .eql 6 v21 (.int .i64 0)) fun v22 =>
 rt false base v22 h5)
 (bnd (oBin .eql 6 v17 (.int .i64 2)) fun v23 =>
 cnd v23
 (bnd (oFieldPtr v0 5) fun v24 =>
 bnd (oLoad false 1 h5 v24) fun v25 =>
 bnd (oLenSl v25) fun v26 =>
 bnd (oBin .eql 6 v26 (.int .i64 0)) fun v27 =>
 bnd (gua v27 true (oFieldPtr v0 1) (some (.tup []))) fun v28 =>
 bnd (gua v27 true (oLoad true 4 h5 v28) (some (.tup []))) fun v29 =>
 bnd (gua v27 true (oBuildA [(.int .u64 0), (.int .u64 0), (.int .u64 0), (.int .u64 0)] 1 []) (some (.tup []))) fun v30 =>
 bnd (gua v27 true (oBin .neq 46 v29 v30) (some (.tup []))) fun v31 =>
 bnd (oPick v27 v31 (.bool false)) fun v32 =>
 rt false base v32 h5)
 (bnd (oBin .eql 6 v17 (.int .i64 5)) fun v33 =>
 cnd v33
 (bnd (oFieldPtr v0 5) fun v34 =>
 bnd (oLoad false 1 h5 v34) fun v35 =>
 bnd (oLenSl v35) fun v36 =>
 bnd (oBin .eql 6 v36 (.int .i64 1)) fun v37 =>
 bnd (gua v37 true (oFieldPtr v0 5) (some (.tup []))) fun v38 =>
 bnd (gua v37 true (oLoad false 1 h5 v38) (some (.tup []))) fun v39 =>
 bnd (gua v37 true (oIndexPtr 6 v39 (.int .i64 0)) (some (.tup []))) fun v40 =>
 bnd (gua v37 true (oLoad true 6 h5 v40) (some (.tup []))) fun v41 =>
 bcall (gua v37 true (E n_regex_Star [v41] h5) (some (.ret (.tup []), h5))) (fun v42 h43 =>
 bnd (gua v37 true (bnd (oLoad true 6 h43 v0) fun v44 => sch (sam (oLoad true 6 h5 v0) v44) (
 some v44)) (some (.tup []))) fun v44 =>
 bcall (gua v37 true (E n_regex_same [v42, v44] h43) (some (.ret (.tup []), h43))) (fun v45 h46 =>
 bnd (oPick v37 v45 (.bool false)) fun v47 =>
 rt false base v47 h46)
 (fun v45 h46 => pn false base v45 h46))
 (fun v42 h43 => sch (tlb (gua v37 true (oLoad true 6 h5 v0) (some (.tup []))) fun v48 => true) (pn false base v42 h43)))
 (bnd (oBin .eql 6 v17 (.int .i64 3)) fun v49 =>
 cnd v49
 (bnd (oFieldPtr v0 5) fun v50 =>
 bnd (oLoad false 1 h5 v50) fun v51 =>
 bnd (oLenSl v51) fun v52 =>
 bnd (oBin .gtr 6 v52 (.int .i64 1)) fun v53 =>
 bnd (gua v53 true (oFieldPtr v0 5) (some (.tup []))) fun v54 =>
 bnd (gua v53 true (oLoad false 1 h5 v54) (some (.tup []))) fun v55 =>
 bcall (gua v53 true (E n_regex_Cat [v55] h5) (some (.ret (.tup []), h5))) (fun v56 h57 =>
 bnd (gua v53 true (bnd (oLoad true 6 h57 v0) fun v58 => sch (sam (oLoad true 6 h5 v0) v58) (
 some v58)) (some (.tup []))) fun v58 =>
 bcall (gua v53 true (E n_regex_same [v56, v58] h57) (some (.ret (.tup []), h57))) (fun v59 h60 =>
 bnd (oPick v53 v59 (.bool false)) fun v61 =>
 rt false base v61 h60)
 (fun v59 h60 => pn false base v59 h60))
 (fun v56 h57 => sch (tlb (gua v53 true (oLoad true 6 h5 v0) (some (.tup []))) fun v62 => true) (pn false base v56 h57)))
 (bnd (oBin .eql 6 v17 (.int .i64 4)) fun v63 =>
 cnd v63
 (bnd (oFieldPtr v0 5) fun v64 =>
 bnd (oLoad false 1 h5 v64) fun v65 =>
 bnd (oLenSl v65) fun v66 =>
 bnd (oBin .gtr 6 v66 (.int .i64 1)) fun v67 =>
 bnd (gua v67 true (oFieldPtr v0 5) (some (.tup []))) fun v68 =>
 bnd (gua v67 true (oLoad false 1 h5 v68) (some (.tup []))) fun v69 =>
 bcall (gua v67 true (E n_regex_Either [v69] h5) (some (.ret (.tup []), h5))) (fun v70 h71 =>
 bnd (gua v67 true (bnd (oLoad true 6 h71 v0) fun v72 => sch (sam (oLoad true 6 h5 v0) v72) (
 some v72)) (some (.tup []))) fun v72 =>
 bcall (gua v67 true (E n_regex_same [v70, v72] h71) (some (.ret (.tup []), h71))) (fun v73 h74 =>
 bnd (oPick v67 v73 (.bool false)) fun v75 =>
 rt false base v75 h74)
 (fun v73 h74 => pn false base v73 h74))
 (fun v70 h71 => sch (tlb (gua v67 true (oLoad true 6 h5 v0) (some (.tup []))) fun v76 => true) (pn false base v70 h71)))
 (regex_Right_j1 base  h5))))))
 (bnd (oBin .eql 6 v17 (.int .i64 1)) fun v77 =>
 cnd v77
 (bnd (oFieldPtr v0 5) fun v78 =>
 bnd (oLoad false 1 h5 v78) fun v79 =>
 bnd (oLenSl v79) fun v80 =>
 bnd (oBin .eql 6 v80 (.int .i64 0)) fun v81 =>
 rt false base v81 h5)
 (bnd (oBin .eql 6 v17 (.int .i64 2)) fun v82 =>
 cnd v82
 (bnd (oFieldPtr v0 5) fun v83 =>
 bnd (oLoad false 1 h5 v83) fun v84 =>
 bnd (oLenSl v84) fun v85 =>
 bnd (oBin .eql 6 v85 (.int .i64 0)) fun v86 =>
 bnd (gua v86 true (oFieldPtr v0 1) (some (.tup []))) fun v87 =>
 bnd (gua v86 true (oLoad true 4 h5 v87) (some (.tup []))) fun v88 =>
 bnd (gua v86 true (oBuildA [(.int .u64 0), (.int .u64 0), (.int .u64 0), (.int .u64 0)] 1 []) (some (.tup []))) fun v89 =>
 bnd (gua v86 true (oBin .neq 46 v88 v89) (some (.tup []))) fun v90 =>
 bnd (oPick v86 v90 (.bool false)) fun v91 =>
 rt false base v91 h5)
 (bnd (oBin .eql 6 v17 (.int .i64 5)) fun v92 =>
 cnd v92
 (bnd (oFieldPtr v0 5) fun v93 =>
 bnd (oLoad false 1 h5 v93) fun v94 =>
 bnd (oLenSl v94) fun v95 =>
 bnd (oBin .eql 6 v95 (.int .i64 1)) fun v96 =>
 bnd (gua v96 true (oFieldPtr v0 5) (some (.tup []))) fun v97 =>
 bnd (gua v96 true (oLoad false 1 h5 v97) (some (.tup []))) fun v98 =>
 bnd (gua v96 true (oIndexPtr 6 v98 (.int .i64 0)) (some (.tup []))) fun v99 =>
 bnd (gua v96 true (oLoad true 6 h5 v99) (some (.tup []))) fun v100 =>
 bcall (gua v96 true (E n_regex_Star [v100] h5) (some (.ret (.tup []), h5))) (fun v101 h102 =>
 bnd (gua v96 true (bnd (oLoad true 6 h102 v0) fun v103 => sch (sam (oLoad true 6 h5 v0) v103) (
 some v103)) (some (.tup []))) fun v103 =>
 bcall (gua v96 true (E n_regex_same [v101, v103] h102) (some (.ret (.tup []), h102))) (fun v104 h105 =>
 bnd (oPick v96 v104 (.bool false)) fun v106 =>
 rt false base v106 h105)
 (fun v104 h105 => pn false base v104 h105))
 (fun v101 h102 => sch (tlb (gua v96 true (oLoad true 6 h5 v0) (some (.tup []))) fun v107 => true) (pn false base v101 h102)))
 (bnd (oBin .eql 6 v17 (.int .i64 3)) fun v108 =>
 cnd v108
 (bnd (oFieldPtr v0 5) fun v109 =>
 bnd (oLoad false 1 h5 v109) fun v110 =>
 bnd (oLenSl v110) fun v111 =>
 bnd (oBin .gtr 6 v111 (.int .i64 1)) fun v112 =>
 bnd (gua v112 true (oFieldPtr v0 5) (some (.tup []))) fun v113 =>
 bnd (gua v112 true (oLoad false 1 h5 v113) (some (.tup []))) fun v114 =>
 bcall (gua v112 true (E n_regex_Cat [v114] h5) (some (.ret (.tup []), h5))) (fun v115 h116 =>
 bnd (gua v112 true (bnd (oLoad true 6 h116 v0) fun v117 => sch (sam (oLoad true 6 h5 v0) v117) (
 some v117)) (some (.tup []))) fun v117 =>
 bcall (gua v112 true (E n_regex_same [v115, v117] h116) (some (.ret (.tup []), h116))) (fun v118 h119 =>
 bnd (oPick v112 v118 (.bool false)) fun v120 =>
 rt false base v120 h119)
 (fun v118 h119 => pn false base v118 h119))
 (fun v115 h116 => sch (tlb (gua v112 true (oLoad true 6 h5 v0) (some (.tup []))) fun v121 => true) (pn false base v115 h116)))
 (bnd (oBin .eql 6 v17 (.int .i64 4)) fun v122 =>
 cnd v122
 (bnd (oFieldPtr v0 5) fun v123 =>
 bnd (oLoad false 1 h5 v123) fun v124 =>
 bnd (oLenSl v124) fun v125 =>
 bnd (oBin .gtr 6 v125 (.int .i64 1)) fun v126 =>
 bnd (gua v126 true (oFieldPtr v0 5) (some (.tup []))) fun v127 =>
 bnd (gua v126 true (oLoad false 1 h5 v127) (some (.tup []))) fun v128 =>
 bcall (gua v126 true (E n_regex_Either [v128] h5) (some (.ret (.tup []), h5))) (fun v129 h130 =>
 bnd (gua v126 true (bnd (oLoad true 6 h130 v0) fun v131 => sch (sam (oLoad true 6 h5 v0) v131) (
 some v131)) (some (.tup []))) fun v131 =>
 bcall (gua v126 true (E n_regex_same [v129, v131] h130) (some (.ret (.tup []), h130))) (fun v132 h133 =>
 bnd (oPick v126 v132 (.bool false)) fun v134 =>
 rt false base v134 h133)
 (fun v132 h133 => pn false base v132 h133))
 (fun v129 h130 => sch (tlb (gua v126 true (oLoad true 6 h5 v0) (some (.tup []))) fun v135 => true) (pn false base v129 h130)))
 (regex_Right_j1 base  h5))))))))
 (fun v4 h5 => pn false base v4 h5) := by kernel_rfl
theorem regex_Right_E (t0 : V) (H : Heap) : E n_regex_Right [t0] H = regex_Right H.length t0.nrm H := (EV_atN Tryd.func16 (by kernel_rfl) (by kernel_rfl) (by kernel_rfl)).trans (by kernel_rfl)

def regex_Star_c : Code := bodyOf Tryd.f17
def regex_Star_ks : Ks := [(7, [1, 2])]
def regex_Star_e (base : Nat) : KC (Out × Heap) := xEnd Tryd.prog D false base 15 Tryd.f17.results.toList
def regex_Star_C (base : Nat) (c : Code) (k : KC (Out × Heap)) (t : Ts) (H : Heap) (d : Ds) : Option (Out × Heap) := xC Tryd.prog base false regex_Star_ks E 15 c k t H d
def regex_Star_j1 (base : Nat) (t1 t2 : V) (H : Heap) : Option (Out × Heap) :=
regex_Star_C base (cAt [1, 1] regex_Star_c) (regex_Star_e base) [(1, t1), (2, t2)] H []
theorem regex_Star_j1_eq (base : Nat) (t1 t2 : V) (H : Heap) : regex_Star_j1 base t1 t2 H =
 bnd (oLoad true 6 H t1) fun v16 =>
 bnd (oLit 6 1 (.agg [(.int .i64 0), (.int .u64 0), (.int .u64 0), (.int .u64 0), (.int .u64 0), (.vs [])]) [(0, v16)]) fun v17 =>
 bnd (oBuild [(.int .i64 0), (.int .u64 0), (.int .u64 0), (.int .u64 0), (.int .u64 0), .nils] [(0, 1), (1, 4), (5, 1)] [(0, (.int .i64 5)), (2, v17)]) fun v18 =>
 beff (oStore base 6 H t2 v18) fun v19 h20 =>
 bnd (oLoad true 6 h20 t2) fun v21 =>
 rt false base v21 h20 := by kernel_rfl
def regex_Star (base : Nat) (t0 : V) (H : Heap) : Option (Out × Heap) := regex_Star_C base regex_Star_c (regex_Star_e base) [(0, t0)] H []
theorem regex_Star_eq (base : Nat) (t0 : V) (H : Heap) : regex_Star base t0 H =
 beff (oVar H t0) fun v0 h1 =>
 beff (oVar h1 (.agg [(.int .i64 0), (.int .u64 0), (.int .u64 0), (.int .u64 0), (.int .u64 0), .nils])) fun v2 h3 =>
 bnd (oFieldPtr v0 0) fun v4 =>
 bnd (oLoad false 1 h3 v4) fun v5 =>
 bnd (oBin .eql 6 v5 (.int .i64 0)) fun v6 =>
 cnd v6
 (cnd v6
 (bnd (oBuild [(.int .i64 0), (.int .u64 0), (.int .u64 0), (.int .u64 0), (.int .u64 0), .nils] [(0, 1), (1, 4), (5, 1)] [(0, (.int .i64 1))]) fun v7 =>
 beff (oStore base 6 h3 v2 v7) fun v8 h9 =>
 bnd (oLoad true 6 h9 v2) fun v10 =>
 rt false base v10 h9)
 (bnd (oBin .eql 6 v5 (.int .i64 5)) fun v11 =>
 cnd v11
 (bnd (oLoad true 6 h3 v0) fun v12 =>
 beff (oStore base 6 h3 v2 v12) fun v13 h14 =>
 bnd (oLoad true 6 h14 v2) fun v15 =>
 rt false base v15 h14)
 (regex_Star_j1 base v0 v2 h3)))
 (bnd (oBin .eql 6 v5 (.int .i64 1)) fun v22 =>
 cnd v22
 (bnd (oBuild [(.int .i64 0), (.int .u64 0), (.int .u64 0), (.int .u64 0), (.int .u64 0), .nils] [(0, 1), (1, 4), (5, 1)] [(0, (.int .i64 1))]) fun v23 =>
 beff (oStore base 6 h3 v2 v23) fun v24 h25 =>
 bnd (oLoad true 6 h25 v2) fun v26 =>
 rt false base v26 h25)
 (bnd (oBin .eql 6 v5 (.int .i64 5)) fun v27 =>
 cnd v27
 (bnd (oLoad true 6 h3 v0) fun v28 =>
 beff (oStore base 6 h3 v2 v28) fun v29 h30 =>
 bnd (oLoad true 6 h30 v2) fun v31 =>
 rt false base v31 h30)
 (regex_Star_j1 base v0 v2 h3))) := by kernel_rfl
theorem regex_Star_E (t0 : V) (H : Heap) : E n_regex_Star [t0] H = regex_Star H.length t0 H := (EV_at Tryd.func17 (by kernel_rfl) (by kernel_rfl) (by kernel_rfl)).trans (by kernel_rfl)

def regex_Cat_c : Code := bodyOf Tryd.f18
def regex_Cat_ks : Ks := []
def regex_Cat_e (base : Nat) : KC (Out × Heap) := xEnd Tryd.prog D false base 13 Tryd.f18.results.toList
def regex_Cat_C (base : Nat) (c : Code) (k : KC (Out × Heap)) (t : Ts) (H : Heap) (d : Ds) : Option (Out × Heap) := xC Tryd.prog base false regex_Cat_ks E 13 c k t H d
def regex_Cat (base : Nat) (t0 : V) (H : Heap) : Option (Out × Heap) := regex_Cat_C base regex_Cat_c (regex_Cat_e base) [(0, t0)] H []
theorem regex_Cat_eq (base : Nat) (t0 : V) (H : Heap) : regex_Cat base t0 H =
 beff (oVar H (.agg [(.int .i64 0), (.int .u64 0), (.int .u64 0), (.int .u64 0), (.int .u64 0), .nils])) fun v0 h1 =>
 bcall (E n_regex_flat [t0, (.int .i64 3)] h1) (fun v2 h3 =>
 bcall (E n_regex_is [(.int .i64 0)] h3) (fun v4 h5 =>
 bcall (E n_slices_ContainsFunc_api_Re_api_Re [v2, v4] h5) (fun v6 h7 =>
 cnd v6
 (bnd (oBuild [(.int .i64 0), (.int .u64 0), (.int .u64 0), (.int .u64 0), (.int .u64 0), .nils] [(0, 1), (1, 4), (5, 1)] [(0, (.int .i64 0))]) fun v8 =>
 beff (oStore base 6 h7 v0 v8) fun v9 h10 =>
 bnd (oLoad true 6 h10 v0) fun v11 =>
 rt false base v11 h10)
 (bcall (E n_regex_is [(.int .i64 1)] h7) (fun v12 h13 =>
 bcall (E n_slices_DeleteFunc_api_Re_api_Re [v2, v12] h13) (fun v14 h15 =>
 bcall (E n_regex_of [v14, (.int .i64 3), (.int .i64 1)] h15) (fun v16 h17 =>
 beff (oStore base 6 h17 v0 v16) fun v18 h19 =>
 bnd (oLoad true 6 h19 v0) fun v20 =>
 rt false base v20 h19)
 (fun v16 h17 => pn false base v16 h17))
 (fun v14 h15 => pn false base v14 h15))
 (fun v12 h13 => pn false base v12 h13)))
 (fun v6 h7 => pn false base v6 h7))
 (fun v4 h5 => pn false base v4 h5))
 (fun v2 h3 => pn false base v2 h3) := by kernel_rfl
theorem regex_Cat_E (t0 : V) (H : Heap) : E n_regex_Cat [t0] H = regex_Cat H.length t0 H := (EV_at Tryd.func18 (by kernel_rfl) (by kernel_rfl) (by kernel_rfl)).trans (by kernel_rfl)

def regex_Either_c : Code := bodyOf Tryd.f19
def regex_Either_ks : Ks := [(4, [0, 2, 3, 10, 11, 12]), (8, [0, 2, 3, 10, 11, 12]), (12, [0, 2])]
def regex_Either_e (base : Nat) : KC (Out × Heap) := xEnd Tryd.prog D false base 40 Tryd.f19.results.toList
def regex_Either_C (base : Nat) (c : Code) (k : KC (Out × Heap)) (t : Ts) (H : Heap) (d : Ds) : Option (Out × Heap) := xC Tryd.prog base false regex_Either_ks E 40 c k t H d
def regex_Either_l1 (base : Nat) (t0 t2 t3 t10 t11 t12 : V) (H : Heap) : Option (Out × Heap) :=
iterL (fun t H d again => regex_Either_C base (cAt [1, 1, 1, 0, 1, 0, 0] regex_Either_c) (loopK regex_Either_ks (cAt [1, 1, 1, 0, 1, 0, 0] regex_Either_c) again ((blockK 0 ((seqK (fun _ t => regex_Either_C base (cAt [1, 1, 1, 1] regex_Either_c) (regex_Either_e base) (trimA regex_Either_ks (cAt [1, 1, 1, 1] regex_Either_c) t)) (regex_Either_e base)))))) t H d) [(0, t0), (2, t2), (3, t3), (10, t10), (11, t11), (12, t12)] H []
def regex_Either_j2 (base : Nat) (t0 t2 t3 t10 t11 t12 : V) (H : Heap) : Option (Out × Heap) :=
regex_Either_C base (cAt [1, 1, 1, 0, 1, 0, 0, 1, 1, 1] regex_Either_c) ((loopK regex_Either_ks (cAt [1, 1, 1, 0, 1, 0, 0] regex_Either_c) (iterL (fun t H d again => regex_Either_C base (cAt [1, 1, 1, 0, 1, 0, 0] regex_Either_c) (loopK regex_Either_ks (cAt [1, 1, 1, 0, 1, 0, 0] regex_Either_c) again ((blockK 0 ((seqK (fun _ t => regex_Either_C base (cAt [1, 1, 1, 1] regex_Either_c) (regex_Either_e base) (trimA regex_Either_ks (cAt [1, 1, 1, 1] regex_Either_c) t)) (regex_Either_e base)))))) t H d)) ((blockK 0 ((seqK (fun _ t => regex_Either_C base (cAt [1, 1, 1, 1] regex_Either_c) (regex_Either_e base) (trimA regex_Either_ks (cAt [1, 1, 1, 1] regex_Either_c) t)) (regex_Either_e base))))))) [(0, t0), (2, t2), (3, t3), (10, t10), (11, t11), (12, t12)] H []
theorem regex_Either_j2_eq (base : Nat) (t0 t2 t3 t10 t11 t12 : V) (H : Heap) : regex_Either_j2 base t0 t2 t3 t10 t11 t12 H =
 bnd (oBin .add 6 t12 (.int .i64 1)) fun v28 =>
 regex_Either_l1 base t0 t2 t3 t10 t11 v28 H := by kernel_rfl
def regex_Either_j3 (base : Nat) (t0 t2 : V) (H : Heap) : Option (Out × Heap) :=
regex_Either_C base (cAt [1, 1, 1, 1, 1, 1] regex_Either_c) (regex_Either_e base) [(0, t0), (2, t2)] H []
theorem regex_Either_j3_eq (base : Nat) (t0 t2 : V) (H : Heap) : regex_Either_j3 base t0 t2 H =
 bcall (E n_slices_SortStableFunc_api_Re_api_Re [t0, (.fn n_regex_Either_1 [])] H) (fun v42 h43 =>
 bcall (E n_slices_CompactFunc_api_Re_api_Re [t0, (.fn n_regex_Either_2 [])] h43) (fun v44 h45 =>
 bcall (E n_regex_of [v44, (.int .i64 4), (.int .i64 0)] h45) (fun v46 h47 =>
 beff (oStore base 6 h47 t2 v46) fun v48 h49 =>
 bnd (oLoad true 6 h49 t2) fun v50 =>
 rt false base v50 h49)
 (fun v46 h47 => pn false base v46 h47))
 (fun v44 h45 => pn false base v44 h45))
 (fun v42 h43 => pn false base v42 h43) := by kernel_rfl
theorem regex_Either_l1_eq (base : Nat) (t0 t2 t3 t10 t11 t12 : V) (H : Heap) : regex_Either_l1 base t0 t2 t3 t10 t11 t12 H =
 bnd (oBin .lss 6 t12 t11) fun v11 =>
 cnd v11
 (bnd (oIndexPtr 6 t10 t12) fun v12 =>
 bnd (oLoad true 6 H v12) fun v13 =>
 beff (oVar H (.agg [(.int .i64 0), (.int .u64 0), (.int .u64 0), (.int .u64 0), (.int .u64 0), .nils])) fun v14 h15 =>
 beff (oStore base 6 h15 v14 v13) fun v16 h17 =>
 bnd (oFieldPtr v14 0) fun v18 =>
 bnd (oLoad false 1 h17 v18) fun v19 =>
 bnd (oBin .eql 6 v19 (.int .i64 2)) fun v20 =>
 cnd v20
 (bnd (oLoad true 4 h17 t3) fun v21 =>
 bnd (oFieldPtr v14 1) fun v22 =>
 bnd (oLoad true 4 h17 v22) fun v23 =>
 bcall (E n_byteset_Join [v21, v23] h17) (fun v24 h25 =>
 beff (oStore base 4 h25 t3 v24) fun v26 h27 =>
 regex_Either_j2 base t0 t2 t3 t10 t11 t12 h27)
 (fun v24 h25 => pn false base v24 h25))
 (regex_Either_j2 base t0 t2 t3 t10 t11 t12 h17))
 (bcall (E n_regex_is [(.int .i64 2)] H) (fun v29 h30 =>
 bcall (E n_slices_DeleteFunc_api_Re_api_Re [t0, v29] h30) (fun v31 h32 =>
 bnd (oLoad true 4 h32 t3) fun v33 =>
 bnd (oBuildA [(.int .u64 0), (.int .u64 0), (.int .u64 0), (.int .u64 0)] 1 []) fun v34 =>
 bnd (oBin .neq 46 v33 v34) fun v35 =>
 cnd v35
 (bnd (oLoad true 4 h32 t3) fun v36 =>
 bcall (E n_regex_Of [v36] h32) (fun v37 h38 =>
 bnd (oLit 6 1 (.agg [(.int .i64 0), (.int .u64 0), (.int .u64 0), (.int .u64 0), (.int .u64 0), (.vs [])]) [(0, v37)]) fun v39 =>
 bcall (E n_slices_Insert_api_Re_api_Re [v31, (.int .i64 0), v39] h38) (fun v40 h41 =>
 regex_Either_j3 base v40 t2 h41)
 (fun v40 h41 => pn false base v40 h41))
 (fun v37 h38 => pn false base v37 h38))
 (regex_Either_j3 base v31 t2 h32))
 (fun v31 h32 => pn false base v31 h32))
 (fun v29 h30 => pn false base v29 h30)) := (loop_eq (cAt [1, 1, 1, 0, 1, 0, 0] regex_Either_c) ((blockK 0 ((seqK (fun _ t => regex_Either_C base (cAt [1, 1, 1, 1] regex_Either_c) (regex_Either_e base) (trimA regex_Either_ks (cAt [1, 1, 1, 1] regex_Either_c) t)) (regex_Either_e base))))) _ H []).trans (by kernel_rfl)
def regex_Either (base : Nat) (t0 : V) (H : Heap) : Option (Out × Heap) := regex_Either_C base regex_Either_c (regex_Either_e base) [(0, t0)] H []
theorem regex_Either_eq (base : Nat) (t0 : V) (H : Heap) : regex_Either base t0 H =
 beff (oVar H (.agg [(.int .i64 0), (.int .u64 0), (.int .u64 0), (.int .u64 0), (.int .u64 0), .nils])) fun v0 h1 =>
 bcall (E n_regex_flat [t0, (.int .i64 4)] h1) (fun v2 h3 =>
 bcall (E n_regex_is [(.int .i64 0)] h3) (fun v4 h5 =>
 bcall (E n_slices_DeleteFunc_api_Re_api_Re [v2, v4] h5) (fun v6 h7 =>
 beff (oVar h7 (.agg [(.int .u64 0), (.int .u64 0), (.int .u64 0), (.int .u64 0)])) fun v8 h9 =>
 bnd (oLenSl v6) fun v10 =>
 regex_Either_l1 base v6 v0 v8 v6 v10 (.int .i64 0) h9)
 (fun v6 h7 => pn false base v6 h7))
 (fun v4 h5 => pn false base v4 h5))
 (fun v2 h3 => pn false base v2 h3) := by kernel_rfl
theorem regex_Either_E (t0 : V) (H : Heap) : E n_regex_Either [t0] H = regex_Either H.length t0 H := (EV_at Tryd.func19 (by kernel_rfl) (by kernel_rfl) (by kernel_rfl)).trans (by kernel_rfl)

def law07_letter_c : Code := bodyOf Tryd.f22
def law07_letter_ks : Ks := []
def law07_letter_e (base : Nat) : KC (Out × Heap) := xEnd Tryd.prog D false base 9 Tryd.f22.results.toList
def law07_letter_C (base : Nat) (c : Code) (k : KC (Out × Heap)) (t : Ts) (H : Heap) (d : Ds) : Option (Out × Heap) := xC Tryd.prog base false law07_letter_ks E 9 c k t H d
def law07_letter (base : Nat) (t0 t1 : V) (H : Heap) : Option (Out × Heap) := law07_letter_C base law07_letter_c (law07_letter_e base) [(0, t0), (1, t1)] H []
theorem law07_letter_eq (base : Nat) (t0 t1 : V) (H : Heap) : law07_letter base t0 t1 H =
 beff (oVar H (.agg [(.int .i64 0), (.int .u64 0), (.int .u64 0), (.int .u64 0), (.int .u64 0), .nils])) fun v0 h1 =>
 bcall (E n_ref01_Of [t0, t1] h1) (fun v2 h3 =>
 bnd (oBuild [(.int .i64 0), (.int .u64 0), (.int .u64 0), (.int .u64 0), (.int .u64 0), .nils] [(0, 1), (1, 4), (5, 1)] [(0, (.int .i64 2)), (1, v2)]) fun v4 =>
 beff (oStore base 6 h3 v0 v4) fun v5 h6 =>
 bnd (oLoad true 6 h6 v0) fun v7 =>
 rt false base v7 h6)
 (fun v2 h3 => pn false base v2 h3) := by kernel_rfl
theorem law07_letter_E (t0 t1 : V) (H : Heap) : E n_law07_letter [t0, t1] H = law07_letter H.length t0 t1 H := (EV_at Tryd.func22 (by kernel_rfl) (by kernel_rfl) (by kernel_rfl)).trans (by kernel_rfl)

def ref07_Text_c : Code := bodyOf Tryd.f23
def ref07_Text_ks : Ks := [(10, [3, 4, 5]), (14, [3, 4, 5]), (11, [3, 4, 5]), (18, [1, 3, 6]), (23, [1, 3, 7]), (27, [1, 3, 7]), (24, [1, 3, 7])]
def ref07_Text_e (base : Nat) : KC (Out × Heap) := xEnd Tryd.prog D false base 100 Tryd.f23.results.toList
def ref07_Text_C (base : Nat) (c : Code) (k : KC (Out × Heap)) (t : Ts) (H : Heap) (d : Ds) : Option (Out × Heap) := xC Tryd.prog base false ref07_Text_ks E 100 c k t H d
def ref07_Text_l1 (base : Nat) (t3 t4 t5 : V) (H : Heap) : Option (Out × Heap) :=
iterL (fun t H d again => ref07_Text_C base (cAt [1, 1, 0, 1, 0, 1, 1, 1, 1, 1, 0, 1, 0, 1, 0, 0] ref07_Text_c) (loopK ref07_Text_ks (cAt [1, 1, 0, 1, 0, 1, 1, 1, 1, 1, 0, 1, 0, 1, 0, 0] ref07_Text_c) again ((blockK 1 ((seqK (fun _ t => ref07_Text_C base (cAt [1, 1, 0, 1, 0, 1, 1, 1, 1, 1, 0, 1, 1] ref07_Text_c) ((blockK 0 ((seqK (fun _ t => ref07_Text_C base (cAt [1, 1, 1] ref07_Text_c) (ref07_Text_e base) (trimA ref07_Text_ks (cAt [1, 1, 1] ref07_Text_c) t)) (ref07_Text_e base))))) (trimA ref07_Text_ks (cAt [1, 1, 0, 1, 0, 1, 1, 1, 1, 1, 0, 1, 1] ref07_Text_c) t)) ((blockK 0 ((seqK (fun _ t => ref07_Text_C base (cAt [1, 1, 1] ref07_Text_c) (ref07_Text_e base) (trimA ref07_Text_ks (cAt [1, 1, 1] ref07_Text_c) t)) (ref07_Text_e base)))))))))) t H d) [(3, t3), (4, t4), (5, t5)] H []
def ref07_Text_j3 (base : Nat) (t3 t4 t5 : V) (H : Heap) : Option (Out × Heap) :=
ref07_Text_C base (cAt [1, 1, 0, 1, 0, 1, 1, 1, 1, 1, 0, 1, 0, 1, 0, 0, 1, 1] ref07_Text_c) ((loopK ref07_Text_ks (cAt [1, 1, 0, 1, 0, 1, 1, 1, 1, 1, 0, 1, 0, 1, 0, 0] ref07_Text_c) (iterL (fun t H d again => ref07_Text_C base (cAt [1, 1, 0, 1, 0, 1, 1, 1, 1, 1, 0, 1, 0, 1, 0, 0] ref07_Text_c) (loopK ref07_Text_ks (cAt [1, 1, 0, 1, 0, 1, 1, 1, 1, 1, 0, 1, 0, 1, 0, 0] ref07_Text_c) again ((blockK 1 ((seqK (fun _ t => ref07_Text_C base (cAt [1, 1, 0, 1, 0, 1, 1, 1, 1, 1, 0, 1, 1] ref07_Text_c) ((blockK 0 ((seqK (fun _ t => ref07_Text_C base (cAt [1, 1, 1] ref07_Text_c) (ref07_Text_e base) (trimA ref07_Text_ks (cAt [1, 1, 1] ref07_Text_c) t)) (ref07_Text_e base))))) (trimA ref07_Text_ks (cAt [1, 1, 0, 1, 0, 1, 1, 1, 1, 1, 0, 1, 1] ref07_Text_c) t)) ((blockK 0 ((seqK (fun _ t => ref07_Text_C base (cAt [1, 1, 1] ref07_Text_c) (ref07_Text_e base) (trimA ref07_Text_ks (cAt [1, 1, 1] ref07_Text_c) t)) (ref07_Text_e base)))))))))) t H d)) ((blockK 1 ((seqK (fun _ t => ref07_Text_C base (cAt [1, 1, 0, 1, 0, 1, 1, 1, 1, 1, 0, 1, 1] ref07_Text_c) ((blockK 0 ((seqK (fun _ t => ref07_Text_C base (cAt [1, 1, 1] ref07_Text_c) (ref07_Text_e base) (trimA ref07_Text_ks (cAt [1, 1, 1] ref07_Text_c) t)) (ref07_Text_e base))))) (trimA ref07_Text_ks (cAt [1, 1, 0, 1, 0, 1, 1, 1, 1, 1, 0, 1, 1] ref07_Text_c) t)) ((blockK 0 ((seqK (fun _ t => ref07_Text_C base (cAt [1, 1, 1] ref07_Text_c) (ref07_Text_e base) (trimA ref07_Text_ks (cAt [1, 1, 1] ref07_Text_c) t)) (ref07_Text_e base))))))))))) [(3, t3), (4, t4), (5, t5)] H []
theorem ref07_Text_j3_eq (base : Nat) (t3 t4 t5 : V) (H : Heap) : ref07_Text_j3 base t3 t4 t5 H =
 bnd (oBin .add 6 t5 (.int .i64 1)) fun v28 =>
 ref07_Text_l1 base t3 t4 v28 H := by kernel_rfl
def ref07_Text_j2 (base : Nat) (t3 t4 t5 : V) (H : Heap) : Option (Out × Heap) :=
ref07_Text_C base (cAt [1, 1, 0, 1, 0, 1, 1, 1, 1, 1, 0, 1, 0, 1, 0, 0, 1, 0, 0, 1] ref07_Text_c) ((blockK 2 ((seqK (fun _ t => ref07_Text_C base (cAt [1, 1, 0, 1, 0, 1, 1, 1, 1, 1, 0, 1, 0, 1, 0, 0, 1, 1] ref07_Text_c) ((loopK ref07_Text_ks (cAt [1, 1, 0, 1, 0, 1, 1, 1, 1, 1, 0, 1, 0, 1, 0, 0] ref07_Text_c) (iterL (fun t H d again => ref07_Text_C base (cAt [1, 1, 0, 1, 0, 1, 1, 1, 1, 1, 0, 1, 0, 1, 0, 0] ref07_Text_c) (loopK ref07_Text_ks (cAt [1, 1, 0, 1, 0, 1, 1, 1, 1, 1, 0, 1, 0, 1, 0, 0] ref07_Text_c) again ((blockK 1 ((seqK (fun _ t => ref07_Text_C base (cAt [1, 1, 0, 1, 0, 1, 1, 1, 1, 1, 0, 1, 1] ref07_Text_c) ((blockK 0 ((seqK (fun _ t => ref07_Text_C base (cAt [1, 1, 1] ref07_Text_c) (ref07_Text_e base) (trimA ref07_Text_ks (cAt [1, 1, 1] ref07_Text_c) t)) (ref07_Text_e base))))) (trimA ref07_Text_ks (cAt [1, 1, 0, 1, 0, 1, 1, 1, 1, 1, 0, 1, 1] ref07_Text_c) t)) ((blockK 0 ((seqK (fun _ t => ref07_Text_C base (cAt [1, 1, 1] ref07_Text_c) (ref07_Text_e base) (trimA ref07_Text_ks (cAt [1, 1, 1] ref07_Text_c) t)) (ref07_Text_e base)))))))))) t H d)) ((blockK 1 ((seqK (fun _ t => ref07_Text_C base (cAt [1, 1, 0, 1, 0, 1, 1, 1, 1, 1, 0, 1, 1] ref07_Text_c) ((blockK 0 ((seqK (fun _ t => ref07_Text_C base (cAt [1, 1, 1] ref07_Text_c) (ref07_Text_e base) (trimA ref07_Text_ks (cAt [1, 1, 1] ref07_Text_c) t)) (ref07_Text_e base))))) (trimA ref07_Text_ks (cAt [1, 1, 0, 1, 0, 1, 1, 1, 1, 1, 0, 1, 1] ref07_Text_c) t)) ((blockK 0 ((seqK (fun _ t => ref07_Text_C base (cAt [1, 1, 1] ref07_Text_c) (ref07_Text_e base) (trimA ref07_Text_ks (cAt [1, 1, 1] ref07_Text_c) t)) (ref07_Text_e base))))))))))) (trimA ref07_Text_ks (cAt [1, 1, 0, 1, 0, 1, 1, 1, 1, 1, 0, 1, 0, 1, 0, 0, 1, 1] ref07_Text_c) t)) ((loopK ref07_Text_ks (cAt [1, 1, 0, 1, 0, 1, 1, 1, 1, 1, 0, 1, 0, 1, 0, 0] ref07_Text_c) (iterL (fun t H d again => ref07_Text_C base (cAt [1, 1, 0, 1, 0, 1, 1, 1, 1, 1, 0, 1, 0, 1, 0, 0] ref07_Text_c) (loopK ref07_Text_ks (cAt [1, 1, 0, 1, 0, 1, 1, 1, 1, 1, 0, 1, 0, 1, 0, 0] ref07_Text_c) again ((blockK 1 ((seqK (fun _ t => ref07_Text_C base (cAt [1, 1, 0, 1, 0, 1, 1, 1, 1, 1, 0, 1, 1] ref07_Text_c) ((blockK 0 ((seqK (fun _ t => ref07_Text_C base (cAt [1, 1, 1] ref07_Text_c) (ref07_Text_e base) (trimA ref07_Text_ks (cAt [1, 1, 1] ref07_Text_c) t)) (ref07_Text_e base))))) (trimA ref07_Text_ks (cAt [1, 1, 0, 1, 0, 1, 1, 1, 1, 1, 0, 1, 1] ref07_Text_c) t)) ((blockK 0 ((seqK (fun _ t => ref07_Text_C base (cAt [1, 1, 1] ref07_Text_c) (ref07_Text_e base) (trimA ref07_Text_ks (cAt [1, 1, 1] ref07_Text_c) t)) (ref07_Text_e base)))))))))) t H d)) ((blockK 1 ((seqK (fun _ t => ref07_Text_C base (cAt [1, 1, 0, 1, 0, 1, 1, 1, 1, 1, 0, 1, 1] ref07_Text_c) ((blockK 0 ((seqK (fun _ t => ref07_Text_C base (cAt [1, 1, 1] ref07_Text_c) (ref07_Text_e base) (trimA ref07_Text_ks (cAt [1, 1, 1] ref07_Text_c) t)) (ref07_Text_e base))))) (trimA ref07_Text_ks (cAt [1, 1, 0, 1, 0, 1, 1, 1, 1, 1, 0, 1, 1] ref07_Text_c) t)) ((blockK 0 ((seqK (fun _ t => ref07_Text_C base (cAt [1, 1, 1] ref07_Text_c) (ref07_Text_e base) (trimA ref07_Text_ks (cAt [1, 1, 1] ref07_Text_c) t)) (ref07_Text_e base))))))))))))))) [(3, t3), (4, t4), (5, t5)] H []
theorem ref07_Text_j2_eq (base : Nat) (t3 t4 t5 : V) (H : Heap) : ref07_Text_j2 base t3 t4 t5 H =
 bnd (oIndexPtr 2 t4 t5) fun v15 =>
 bnd (oFieldPtr v15 0) fun v16 =>
 bnd (oLoad false 1 H v16) fun v17 =>
 bcall (E n_ref07_digits [v17] H) (fun v18 h19 =>
 bnd (oBin .add 6 t3 v18) fun v20 =>
 bnd (oBin .add 6 v20 (.str [45])) fun v21 =>
 bnd (oIndexPtr 2 t4 t5) fun v22 =>
 bnd (oFieldPtr v22 1) fun v23 =>
 bnd (bnd (oLoad false 1 h19 v23) fun v24 => sch (sam (oLoad false 1 H v23) v24) (
 some v24)) fun v24 =>
 bcall (E n_ref07_digits [v24] h19) (fun v25 h26 =>
 bnd (oBin .add 6 v21 v25) fun v27 =>
 ref07_Text_j3 base v27 t4 t5 h26)
 (fun v25 h26 => pn false base v25 h26))
 (fun v18 h19 => sch (tlb (oMove t4) fun v29 => tlb (oMove t5) fun v30 => tlb (oIndexPtr 2 v29 v30) fun v31 => tlb (oFieldPtr v31 1) fun v32 => tlb (oLoad false 1 H v32) fun v33 => true) (pn false base v18 h19)) := by kernel_rfl
theorem ref07_Text_l1_eq (base : Nat) (t3 t4 t5 : V) (H : Heap) : ref07_Text_l1 base t3 t4 t5 H =
 bnd (oLenSl t4) fun v11 =>
 bnd (oBin .lss 6 t5 v11) fun v12 =>
 cnd v12
 (bnd (oBin .gtr 6 t5 (.int .i64 0)) fun v13 =>
 cnd v13
 (bnd (oBin .add 6 t3 (.str [44])) fun v14 =>
 ref07_Text_j2 base v14 t4 t5 H)
 (ref07_Text_j2 base t3 t4 t5 H))
 (bnd (oBin .add 6 (.str [91]) t3) fun v34 =>
 bnd (oBin .add 6 v34 (.str [93])) fun v35 =>
 rt false base v35 H) := (loop_eq (cAt [1, 1, 0, 1, 0, 1, 1, 1, 1, 1, 0, 1, 0, 1, 0, 0] ref07_Text_c) ((blockK 1 ((seqK (fun _ t => ref07_Text_C base (cAt [1, 1, 0, 1, 0, 1, 1, 1, 1, 1, 0, 1, 1] ref07_Text_c) ((blockK 0 ((seqK (fun _ t => ref07_Text_C base (cAt [1, 1, 1] ref07_Text_c) (ref07_Text_e base) (trimA ref07_Text_ks (cAt [1, 1, 1] ref07_Text_c) t)) (ref07_Text_e base))))) (trimA ref07_Text_ks (cAt [1, 1, 0, 1, 0, 1, 1, 1, 1, 1, 0, 1, 1] ref07_Text_c) t)) ((blockK 0 ((seqK (fun _ t => ref07_Text_C base (cAt [1, 1, 1] ref07_Text_c) (ref07_Text_e base) (trimA ref07_Text_ks (cAt [1, 1, 1] ref07_Text_c) t)) (ref07_Text_e base))))))))) _ H []).trans (by kernel_rfl)
def ref07_Text_l4 (base : Nat) (t1 t3 t6 : V) (H : Heap) : Option (Out × Heap) :=
iterL (fun t H d again => ref07_Text_C base (cAt [1, 1, 0, 1, 0, 1, 1, 1, 1, 1, 1, 1, 0, 0, 1, 0, 0] ref07_Text_c) (loopK ref07_Text_ks (cAt [1, 1, 0, 1, 0, 1, 1, 1, 1, 1, 1, 1, 0, 0, 1, 0, 0] ref07_Text_c) again ((blockK 3 ((seqK (fun _ t => ref07_Text_C base (cAt [1, 1, 0, 1, 0, 1, 1, 1, 1, 1, 1, 1, 0, 1] ref07_Text_c) ((blockK 0 ((seqK (fun _ t => ref07_Text_C base (cAt [1, 1, 1] ref07_Text_c) (ref07_Text_e base) (trimA ref07_Text_ks (cAt [1, 1, 1] ref07_Text_c) t)) (ref07_Text_e base))))) (trimA ref07_Text_ks (cAt [1, 1, 0, 1, 0, 1, 1, 1, 1, 1, 1, 1, 0, 1] ref07_Text_c) t)) ((blockK 0 ((seqK (fun _ t => ref07_Text_C base (cAt [1, 1, 1] ref07_Text_c) (ref07_Text_e base) (trimA ref07_Text_ks (cAt [1, 1, 1] ref07_Text_c) t)) (ref07_Text_e base)))))))))) t H d) [(1, t1), (3, t3), (6, t6)] H []
theorem ref07_Text_l4_eq (base : Nat) (t1 t3 t6 : V) (H : Heap) : ref07_Text_l4 base t1 t3 t6 H =
 bnd (oFieldPtr t1 5) fun v37 =>
 bnd (oLoad false 1 H v37) fun v38 =>
 bnd (oLenSl v38) fun v39 =>
 bnd (oBin .lss 6 t6 v39) fun v40 =>
 cnd v40
 (bnd (oFieldPtr t1 5) fun v41 =>
 bnd (oLoad false 1 H v41) fun v42 =>
 bnd (oIndexPtr 6 v42 t6) fun v43 =>
 bnd (oLoad true 6 H v43) fun v44 =>
 bcall (E n_ref07_Text [v44] H) (fun v45 h46 =>
 bnd (oBin .add 6 t3 v45) fun v47 =>
 bnd (oBin .add 6 t6 (.int .i64 1)) fun v48 =>
 ref07_Text_l4 base t1 v47 v48 h46)
 (fun v45 h46 => pn false base v45 h46))
 (bnd (oBin .add 6 t3 (.str [42])) fun v49 =>
 rt false base v49 H) := (loop_eq (cAt [1, 1, 0, 1, 0, 1, 1, 1, 1, 1, 1, 1, 0, 0, 1, 0, 0] ref07_Text_c) ((blockK 3 ((seqK (fun _ t => ref07_Text_C base (cAt [1, 1, 0, 1, 0, 1, 1, 1, 1, 1, 1, 1, 0, 1] ref07_Text_c) ((blockK 0 ((seqK (fun _ t => ref07_Text_C base (cAt [1, 1, 1] ref07_Text_c) (ref07_Text_e base) (trimA ref07_Text_ks (cAt [1, 1, 1] ref07_Text_c) t)) (ref07_Text_e base))))) (trimA ref07_Text_ks (cAt [1, 1, 0, 1, 0, 1, 1, 1, 1, 1, 1, 1, 0, 1] ref07_Text_c) t)) ((blockK 0 ((seqK (fun _ t => ref07_Text_C base (cAt [1, 1, 1] ref07_Text_c) (ref07_Text_e base) (trimA ref07_Text_ks (cAt [1, 1, 1] ref07_Text_c) t)) (ref07_Text_e base))))))))) _ H []).trans (by kernel_rfl)
def ref07_Text_l5 (base : Nat) (t1 t3 t7 : V) (H : Heap) : Option (Out × Heap) :=
iterL (fun t H d again => ref07_Text_C base (cAt [1, 1, 1, 0, 1, 0, 0] ref07_Text_c) (loopK ref07_Text_ks (cAt [1, 1, 1, 0, 1, 0, 0] ref07_Text_c) again ((blockK 5 ((seqK (fun _ t => ref07_Text_C base (cAt [1, 1, 1, 1] ref07_Text_c) (ref07_Text_e base) (trimA ref07_Text_ks (cAt [1, 1, 1, 1] ref07_Text_c) t)) (ref07_Text_e base)))))) t H d) [(1, t1), (3, t3), (7, t7)] H []
def ref07_Text_j7 (base : Nat) (t1 t3 t7 : V) (H : Heap) : Option (Out × Heap) :=
ref07_Text_C base (cAt [1, 1, 1, 0, 1, 0, 0, 1, 1] ref07_Text_c) ((loopK ref07_Text_ks (cAt [1, 1, 1, 0, 1, 0, 0] ref07_Text_c) (iterL (fun t H d again => ref07_Text_C base (cAt [1, 1, 1, 0, 1, 0, 0] ref07_Text_c) (loopK ref07_Text_ks (cAt [1, 1, 1, 0, 1, 0, 0] ref07_Text_c) again ((blockK 5 ((seqK (fun _ t => ref07_Text_C base (cAt [1, 1, 1, 1] ref07_Text_c) (ref07_Text_e base) (trimA ref07_Text_ks (cAt [1, 1, 1, 1] ref07_Text_c) t)) (ref07_Text_e base)))))) t H d)) ((blockK 5 ((seqK (fun _ t => ref07_Text_C base (cAt [1, 1, 1, 1] ref07_Text_c) (ref07_Text_e base) (trimA ref07_Text_ks (cAt [1, 1, 1, 1] ref07_Text_c) t)) (ref07_Text_e base))))))) [(1, t1), (3, t3), (7, t7)] H []
theorem ref07_Text_j7_eq (base : Nat) (t1 t3 t7 : V) (H : Heap) : ref07_Text_j7 base t1 t3 t7 H =
 bnd (oBin .add 6 t7 (.int .i64 1)) fun v67 =>
 ref07_Text_l5 base t1 t3 v67 H := by kernel_rfl
def ref07_Text_j6 (base : Nat) (t1 t3 t7 : V) (H : Heap) : Option (Out × Heap) :=
ref07_Text_C base (cAt [1, 1, 1, 0, 1, 0, 0, 1, 0, 0, 1] ref07_Text_c) ((blockK 6 ((seqK (fun _ t => ref07_Text_C base (cAt [1, 1, 1, 0, 1, 0, 0, 1, 1] ref07_Text_c) ((loopK ref07_Text_ks (cAt [1, 1, 1, 0, 1, 0, 0] ref07_Text_c) (iterL (fun t H d again => ref07_Text_C base (cAt [1, 1, 1, 0, 1, 0, 0] ref07_Text_c) (loopK ref07_Text_ks (cAt [1, 1, 1, 0, 1, 0, 0] ref07_Text_c) again ((blockK 5 ((seqK (fun _ t => ref07_Text_C base (cAt [1, 1, 1, 1] ref07_Text_c) (ref07_Text_e base) (trimA ref07_Text_ks (cAt [1, 1, 1, 1] ref07_Text_c) t)) (ref07_Text_e base)))))) t H d)) ((blockK 5 ((seqK (fun _ t => ref07_Text_C base (cAt [1, 1, 1, 1] ref07_Text_c) (ref07_Text_e base) (trimA ref07_Text_ks (cAt [1, 1, 1, 1] ref07_Text_c) t)) (ref07_Text_e base))))))) (trimA ref07_Text_ks (cAt [1, 1, 1, 0, 1, 0, 0, 1, 1] ref07_Text_c) t)) ((loopK ref07_Text_ks (cAt [1, 1, 1, 0, 1, 0, 0] ref07_Text_c) (iterL (fun t H d again => ref07_Text_C base (cAt [1, 1, 1, 0, 1, 0, 0] ref07_Text_c) (loopK ref07_Text_ks (cAt [1, 1, 1, 0, 1, 0, 0] ref07_Text_c) again ((blockK 5 ((seqK (fun _ t => ref07_Text_C base (cAt [1, 1, 1, 1] ref07_Text_c) (ref07_Text_e base) (trimA ref07_Text_ks (cAt [1, 1, 1, 1] ref07_Text_c) t)) (ref07_Text_e base)))))) t H d)) ((blockK 5 ((seqK (fun _ t => ref07_Text_C base (cAt [1, 1, 1, 1] ref07_Text_c) (ref07_Text_e base) (trimA ref07_Text_ks (cAt [1, 1, 1, 1] ref07_Text_c) t)) (ref07_Text_e base))))))))))) [(1, t1), (3, t3), (7, t7)] H []
theorem ref07_Text_j6_eq (base : Nat) (t1 t3 t7 : V) (H : Heap) : ref07_Text_j6 base t1 t3 t7 H =
 bnd (oFieldPtr t1 5) fun v60 =>
 bnd (oLoad false 1 H v60) fun v61 =>
 bnd (oIndexPtr 6 v61 t7) fun v62 =>
 bnd (oLoad true 6 H v62) fun v63 =>
 bcall (E n_ref07_Text [v63] H) (fun v64 h65 =>
 bnd (oBin .add 6 t3 v64) fun v66 =>
 ref07_Text_j7 base t1 v66 t7 h65)
 (fun v64 h65 => pn false base v64 h65) := by kernel_rfl
theorem ref07_Text_l5_eq (base : Nat) (t1 t3 t7 : V) (H : Heap) : ref07_Text_l5 base t1 t3 t7 H =
 bnd (oFieldPtr t1 5) fun v50 =>
 bnd (oLoad false 1 H v50) fun v51 =>
 bnd (oLenSl v51) fun v52 =>
 bnd (oBin .lss 6 t7 v52) fun v53 =>
 cnd v53
 (bnd (oBin .gtr 6 t7 (.int .i64 0)) fun v54 =>
 bnd (gua v54 true (oFieldPtr t1 0) (some (.tup []))) fun v55 =>
 bnd (gua v54 true (oLoad false 1 H v55) (some (.tup []))) fun v56 =>
 bnd (gua v54 true (oBin .neq 6 v56 (.int .i64 3)) (some (.tup []))) fun v57 =>
 bnd (oPick v54 v57 (.bool false)) fun v58 =>
 cnd v58
 (bnd (oBin .add 6 t3 (.str [124])) fun v59 =>
 ref07_Text_j6 base t1 v59 t7 H)
 (ref07_Text_j6 base t1 t3 t7 H))
 (bnd (oFieldPtr t1 0) fun v68 =>
 bnd (oLoad false 1 H v68) fun v69 =>
 bnd (oBin .eql 6 v69 (.int .i64 3)) fun v70 =>
 cnd v70
 (bnd (oBin .add 6 (.str [40]) t3) fun v71 =>
 bnd (oBin .add 6 v71 (.str [41])) fun v72 =>
 rt false base v72 H)
 (bnd (oBin .add 6 (.str [123]) t3) fun v73 =>
 bnd (oBin .add 6 v73 (.str [125])) fun v74 =>
 rt false base v74 H)) := (loop_eq (cAt [1, 1, 1, 0, 1, 0, 0] ref07_Text_c) ((blockK 5 ((seqK (fun _ t => ref07_Text_C base (cAt [1, 1, 1, 1] ref07_Text_c) (ref07_Text_e base) (trimA ref07_Text_ks (cAt [1, 1, 1, 1] ref07_Text_c) t)) (ref07_Text_e base))))) _ H []).trans (by kernel_rfl)
def ref07_Text (base : Nat) (t0 : V) (H : Heap) : Option (Out × Heap) := ref07_Text_C base ref07_Text_c (ref07_Text_e base) [(0, t0)] H []
theorem ref07_Text_eq (base : Nat) (t0 : V) (H : Heap) : ref07_Text base t0 H =
 beff (oVar H t0) fun v0 h1 =>
 bnd (oFieldPtr v0 0) fun v2 =>
 bnd (oLoad false 1 h1 v2) fun v3 =>
 bnd (oBin .eql 6 v3 (.int .i64 0)) fun v4 =>
 cnd v4
 (rt false base (.str [48]) h1)
 (bnd (oBin .eql 6 v3 (.int .i64 1)) fun v5 =>
 cnd v5
 (rt false base (.str [49]) h1)
 (bnd (oBin .eql 6 v3 (.int .i64 2)) fun v6 =>
 cnd v6
 (bnd (oFieldPtr v0 1) fun v7 =>
 bnd (oLoad true 4 h1 v7) fun v8 =>
 bcall (E n_ref01_Ranges [v8] h1) (fun v9 h10 =>
 ref07_Text_l1 base (.str []) v9 (.int .i64 0) h10)
 (fun v9 h10 => pn false base v9 h10))
 (bnd (oBin .eql 6 v3 (.int .i64 5)) fun v36 =>
 cnd v36
 (ref07_Text_l4 base v0 (.str []) (.int .i64 0) h1)
 (ref07_Text_l5 base v0 (.str []) (.int .i64 0) h1)))) := by kernel_rfl
theorem ref07_Text_E (t0 : V) (H : Heap) : E n_ref07_Text [t0] H = ref07_Text H.length t0 H := (EV_at Tryd.func23 (by kernel_rfl) (by kernel_rfl) (by kernel_rfl)).trans (by kernel_rfl)
end
end Go.Proofs.YtjnkigaiogjfcaaDoor
end

