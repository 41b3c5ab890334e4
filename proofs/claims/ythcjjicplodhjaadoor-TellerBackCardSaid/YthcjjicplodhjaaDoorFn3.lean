/- Fn3: a part of the proof that each law of this seat answers true at every input. No condition. -/
import Derived.Test.YthcjjicplodhjaaDoorHint
import Derived.KernelRfl
set_option linter.unusedVariables false
set_option linter.unusedSimpArgs false
set_option maxRecDepth 20000
section
/- Printed: what functions do. -/
namespace Go.Proofs.YthcjjicplodhjaaDoor
open Go Go.Ev
set_option linter.unusedVariables false
noncomputable section

def slices_ContainsFunc_int_int_c : Code := bodyOf Tryd.f72
def slices_ContainsFunc_int_int_ks : Ks := []
def slices_ContainsFunc_int_int_e (base : Nat) : KC (Out × Heap) := xEnd Tryd.prog D false base 9 Tryd.f72.results.toList
def slices_ContainsFunc_int_int_C (base : Nat) (c : Code) (k : KC (Out × Heap)) (t : Ts) (H : Heap) (d : Ds) : Option (Out × Heap) := xC Tryd.prog base false slices_ContainsFunc_int_int_ks E 9 c k t H d
def slices_ContainsFunc_int_int (base : Nat) (t0 t1 : V) (H : Heap) : Option (Out × Heap) := slices_ContainsFunc_int_int_C base slices_ContainsFunc_int_int_c (slices_ContainsFunc_int_int_e base) [(0, t0), (1, t1)] H []
theorem slices_ContainsFunc_int_int_eq (base : Nat) (t0 t1 : V) (H : Heap) : slices_ContainsFunc_int_int base t0 t1 H =
 bcall (E n_slices_IndexFunc_int_int [t0, t1] H) (fun v0 h1 =>
 bnd (oBin .geq 6 v0 (.int .i64 0)) fun v2 =>
 rt false base v2 h1)
 (fun v0 h1 => pn false base v0 h1) := by kernel_rfl
theorem slices_ContainsFunc_int_int_E (t0 t1 : V) (H : Heap) : E n_slices_ContainsFunc_int_int [t0, t1] H = slices_ContainsFunc_int_int H.length t0 t1 H := (EV_at Tryd.func72 (by kernel_rfl) (by kernel_rfl) (by kernel_rfl)).trans (by kernel_rfl)

def slices_IndexFunc_api_Expr_api_Expr_c : Code := bodyOf Tryd.f73
def slices_IndexFunc_api_Expr_api_Expr_ks : Ks := [(2, [0, 1, 7, 8])]
def slices_IndexFunc_api_Expr_api_Expr_e (base : Nat) : KC (Out × Heap) := xEnd Tryd.prog D false base 19 Tryd.f73.results.toList
def slices_IndexFunc_api_Expr_api_Expr_C (base : Nat) (c : Code) (k : KC (Out × Heap)) (t : Ts) (H : Heap) (d : Ds) : Option (Out × Heap) := xC Tryd.prog base false slices_IndexFunc_api_Expr_api_Expr_ks E 19 c k t H d
def slices_IndexFunc_api_Expr_api_Expr_l1 (base : Nat) (t0 t1 t7 t8 : V) (H : Heap) : Option (Out × Heap) :=
iterL (fun t H d again => slices_IndexFunc_api_Expr_api_Expr_C base (cAt [1, 0, 1, 0, 0] slices_IndexFunc_api_Expr_api_Expr_c) (loopK slices_IndexFunc_api_Expr_api_Expr_ks (cAt [1, 0, 1, 0, 0] slices_IndexFunc_api_Expr_api_Expr_c) again ((blockK 0 ((seqK (fun _ t => slices_IndexFunc_api_Expr_api_Expr_C base (cAt [1, 1] slices_IndexFunc_api_Expr_api_Expr_c) (slices_IndexFunc_api_Expr_api_Expr_e base) (trimA slices_IndexFunc_api_Expr_api_Expr_ks (cAt [1, 1] slices_IndexFunc_api_Expr_api_Expr_c) t)) (slices_IndexFunc_api_Expr_api_Expr_e base)))))) t H d) [(0, t0), (1, t1), (7, t7), (8, t8)] H []
theorem slices_IndexFunc_api_Expr_api_Expr_l1_eq (base : Nat) (t0 t1 t7 t8 : V) (H : Heap) : slices_IndexFunc_api_Expr_api_Expr_l1 base t0 t1 t7 t8 H =
 bnd (oBin .lss 6 t8 t7) fun v1 =>
 cnd v1
 (bnd (oIndexPtr 6 t0 t8) fun v2 =>
 bnd (oLoad true 6 H v2) fun v3 =>
 bcall (oDyn E t1 [v3] H) (fun v4 h5 =>
 cnd v4
 (rt false base t8 h5)
 (bnd (oBin .add 6 t8 (.int .i64 1)) fun v6 =>
 slices_IndexFunc_api_Expr_api_Expr_l1 base t0 t1 t7 v6 h5))
 (fun v4 h5 => pn false base v4 h5))
 (rt false base (.int .i64 (-1)) H) := (loop_eq (cAt [1, 0, 1, 0, 0] slices_IndexFunc_api_Expr_api_Expr_c) ((blockK 0 ((seqK (fun _ t => slices_IndexFunc_api_Expr_api_Expr_C base (cAt [1, 1] slices_IndexFunc_api_Expr_api_Expr_c) (slices_IndexFunc_api_Expr_api_Expr_e base) (trimA slices_IndexFunc_api_Expr_api_Expr_ks (cAt [1, 1] slices_IndexFunc_api_Expr_api_Expr_c) t)) (slices_IndexFunc_api_Expr_api_Expr_e base))))) _ H []).trans (by kernel_rfl)
def slices_IndexFunc_api_Expr_api_Expr (base : Nat) (t0 t1 : V) (H : Heap) : Option (Out × Heap) := slices_IndexFunc_api_Expr_api_Expr_C base slices_IndexFunc_api_Expr_api_Expr_c (slices_IndexFunc_api_Expr_api_Expr_e base) [(0, t0), (1, t1)] H []
theorem slices_IndexFunc_api_Expr_api_Expr_eq (base : Nat) (t0 t1 : V) (H : Heap) : slices_IndexFunc_api_Expr_api_Expr base t0 t1 H =
 bnd (oLenSl t0) fun v0 =>
 slices_IndexFunc_api_Expr_api_Expr_l1 base t0 t1 v0 (.int .i64 0) H := by kernel_rfl
theorem slices_IndexFunc_api_Expr_api_Expr_E (t0 t1 : V) (H : Heap) : E n_slices_IndexFunc_api_Expr_api_Expr [t0, t1] H = slices_IndexFunc_api_Expr_api_Expr H.length t0 t1 H := (EV_at Tryd.func73 (by kernel_rfl) (by kernel_rfl) (by kernel_rfl)).trans (by kernel_rfl)

def slices_Index_int_int_c : Code := bodyOf Tryd.f75
def slices_Index_int_int_ks : Ks := [(2, [0, 1, 7, 8])]
def slices_Index_int_int_e (base : Nat) : KC (Out × Heap) := xEnd Tryd.prog D false base 19 Tryd.f75.results.toList
def slices_Index_int_int_C (base : Nat) (c : Code) (k : KC (Out × Heap)) (t : Ts) (H : Heap) (d : Ds) : Option (Out × Heap) := xC Tryd.prog base false slices_Index_int_int_ks E 19 c k t H d
def slices_Index_int_int_l1 (base : Nat) (t0 t1 t7 t8 : V) (H : Heap) : Option (Out × Heap) :=
iterL (fun t H d again => slices_Index_int_int_C base (cAt [1, 0, 1, 0, 0] slices_Index_int_int_c) (loopK slices_Index_int_int_ks (cAt [1, 0, 1, 0, 0] slices_Index_int_int_c) again ((blockK 0 ((seqK (fun _ t => slices_Index_int_int_C base (cAt [1, 1] slices_Index_int_int_c) (slices_Index_int_int_e base) (trimA slices_Index_int_int_ks (cAt [1, 1] slices_Index_int_int_c) t)) (slices_Index_int_int_e base)))))) t H d) [(0, t0), (1, t1), (7, t7), (8, t8)] H []
theorem slices_Index_int_int_l1_eq (base : Nat) (t0 t1 t7 t8 : V) (H : Heap) : slices_Index_int_int_l1 base t0 t1 t7 t8 H =
 bnd (oBin .lss 6 t8 t7) fun v1 =>
 cnd v1
 (bnd (oIndexPtr 1 t0 t8) fun v2 =>
 bnd (oLoad false 1 H v2) fun v3 =>
 bnd (oBin .eql 6 t1 v3) fun v4 =>
 cnd v4
 (rt false base t8 H)
 (bnd (oBin .add 6 t8 (.int .i64 1)) fun v5 =>
 slices_Index_int_int_l1 base t0 t1 t7 v5 H))
 (rt false base (.int .i64 (-1)) H) := (loop_eq (cAt [1, 0, 1, 0, 0] slices_Index_int_int_c) ((blockK 0 ((seqK (fun _ t => slices_Index_int_int_C base (cAt [1, 1] slices_Index_int_int_c) (slices_Index_int_int_e base) (trimA slices_Index_int_int_ks (cAt [1, 1] slices_Index_int_int_c) t)) (slices_Index_int_int_e base))))) _ H []).trans (by kernel_rfl)
def slices_Index_int_int (base : Nat) (t0 t1 : V) (H : Heap) : Option (Out × Heap) := slices_Index_int_int_C base slices_Index_int_int_c (slices_Index_int_int_e base) [(0, t0), (1, t1)] H []
theorem slices_Index_int_int_eq (base : Nat) (t0 t1 : V) (H : Heap) : slices_Index_int_int base t0 t1 H =
 bnd (oLenSl t0) fun v0 =>
 slices_Index_int_int_l1 base t0 t1 v0 (.int .i64 0) H := by kernel_rfl
theorem slices_Index_int_int_E (t0 t1 : V) (H : Heap) : E n_slices_Index_int_int [t0, t1] H = slices_Index_int_int H.length t0 t1 H := (EV_at Tryd.func75 (by kernel_rfl) (by kernel_rfl) (by kernel_rfl)).trans (by kernel_rfl)

def strconv_FormatInt_c : Code := bodyOf Tryd.f78
def strconv_FormatInt_ks : Ks := []
def strconv_FormatInt_e (base : Nat) : KC (Out × Heap) := xEnd Tryd.prog D false base 8 Tryd.f78.results.toList
def strconv_FormatInt_C (base : Nat) (c : Code) (k : KC (Out × Heap)) (t : Ts) (H : Heap) (d : Ds) : Option (Out × Heap) := xC Tryd.prog base false strconv_FormatInt_ks E 8 c k t H d
def strconv_FormatInt (base : Nat) (t0 t1 : V) (H : Heap) : Option (Out × Heap) := strconv_FormatInt_C base strconv_FormatInt_c (strconv_FormatInt_e base) [(0, t0), (1, t1)] H []
theorem strconv_FormatInt_eq (base : Nat) (t0 t1 : V) (H : Heap) : strconv_FormatInt base t0 t1 H =
 bcall (E n_internal_strconv_FormatInt [t0, t1] H) (fun v0 h1 =>
 rt false base v0 h1)
 (fun v0 h1 => pn false base v0 h1) := by kernel_rfl
theorem strconv_FormatInt_E (t0 t1 : V) (H : Heap) : E n_strconv_FormatInt [t0, t1] H = strconv_FormatInt H.length t0 t1 H := (EV_at Tryd.func78 (by kernel_rfl) (by kernel_rfl) (by kernel_rfl)).trans (by kernel_rfl)

def ref03_reader_repeat_c : Code := bodyOf Tryd.f79
def ref03_reader_repeat_ks : Ks := [(7, [0, 1, 4, 5, 6, 7]), (13, [4, 5, 6, 8])]
def ref03_reader_repeat_e (base : Nat) : KC (Out × Heap) := xEnd Tryd.prog D false base 51 Tryd.f79.results.toList
def ref03_reader_repeat_C (base : Nat) (c : Code) (k : KC (Out × Heap)) (t : Ts) (H : Heap) (d : Ds) : Option (Out × Heap) := xC Tryd.prog base false ref03_reader_repeat_ks E 51 c k t H d
def ref03_reader_repeat_j2 (base : Nat) (t4 t5 t6 t8 : V) (H : Heap) : Option (Out × Heap) :=
ref03_reader_repeat_C base (cAt [1, 1, 1, 1, 1, 1, 1, 1, 1] ref03_reader_repeat_c) (ref03_reader_repeat_e base) [(4, t4), (5, t5), (6, t6), (8, t8)] H []
theorem ref03_reader_repeat_j2_eq (base : Nat) (t4 t5 t6 t8 : V) (H : Heap) : ref03_reader_repeat_j2 base t4 t5 t6 t8 H =
 bnd (oLoad true 6 H t8) fun v39 =>
 bnd (oLit 6 1 (.agg [(.int .i64 0), (.str []), (.vs []), (.int .i64 0), (.int .i64 0), (.vs [])]) [(0, v39)]) fun v40 =>
 bnd (oBuild [(.int .i64 0), (.str []), .nils, (.int .i64 0), (.int .i64 0), .nils] [(0, 1), (1, 1), (2, 1), (3, 1), (4, 1), (5, 1)] [(0, (.int .i64 3)), (3, t5), (4, t6), (5, v40)]) fun v41 =>
 beff (oStore base 6 H t4 v41) fun v42 h43 =>
 bnd (oLoad true 6 h43 t4) fun v44 =>
 rt false base v44 h43 := by kernel_rfl
def ref03_reader_repeat_j1 (base : Nat) (t0 t1 t4 t5 t6 t7 : V) (H : Heap) : Option (Out × Heap) :=
ref03_reader_repeat_C base (cAt [1, 1, 1, 1, 1] ref03_reader_repeat_c) (ref03_reader_repeat_e base) [(0, t0), (1, t1), (4, t4), (5, t5), (6, t6), (7, t7)] H []
theorem ref03_reader_repeat_j1_eq (base : Nat) (t0 t1 t4 t5 t6 t7 : V) (H : Heap) : ref03_reader_repeat_j1 base t0 t1 t4 t5 t6 t7 H =
 bcall (E n_ref03_reader_element [t0, t1] H) (fun v17 h18 =>
 beff (oVar h18 (.agg [(.int .i64 0), (.str []), .nils, (.int .i64 0), (.int .i64 0), .nils])) fun v19 h20 =>
 beff (oStore base 6 h20 v19 v17) fun v21 h22 =>
 bnd (oBin .lss 6 t5 (.int .i64 0)) fun v23 =>
 bnd (gua v23 true (oMove t7) (some (.tup []))) fun v24 =>
 bnd (gua v23 true (oUn .not v24) (some (.tup []))) fun v25 =>
 bnd (oPick v23 v25 (.bool false)) fun v26 =>
 cnd v26
 (bnd (oLoad true 6 h22 v19) fun v27 =>
 beff (oStore base 6 h22 t4 v27) fun v28 h29 =>
 bnd (oLoad true 6 h29 t4) fun v30 =>
 rt false base v30 h29)
 (bnd (oMax [t5, (.int .i64 0)]) fun v31 =>
 bnd (oBin .geq 6 t6 (.int .i64 0)) fun v32 =>
 bnd (gua v32 true (oMove t6) (some (.tup []))) fun v33 =>
 bnd (gua v32 true (oMove v31) (some (.tup []))) fun v34 =>
 bnd (gua v32 true (oBin .lss 6 v33 v34) (some (.tup []))) fun v35 =>
 bnd (oPick v32 v35 (.bool false)) fun v36 =>
 cnd v36
 (bcall (E n_ref03_reader_fail [t0, (.int .i64 20)] h22) (fun v37 h38 =>
 ref03_reader_repeat_j2 base t4 v31 t6 v19 h38)
 (fun v37 h38 => pn false base v37 h38))
 (ref03_reader_repeat_j2 base t4 v31 t6 v19 h22)))
 (fun v17 h18 => pn false base v17 h18) := by kernel_rfl
def ref03_reader_repeat (base : Nat) (t0 t1 : V) (H : Heap) : Option (Out × Heap) := ref03_reader_repeat_C base ref03_reader_repeat_c (ref03_reader_repeat_e base) [(0, t0), (1, t1)] H []
theorem ref03_reader_repeat_eq (base : Nat) (t0 t1 : V) (H : Heap) : ref03_reader_repeat base t0 t1 H =
 beff (oVar H (.agg [(.int .i64 0), (.str []), .nils, (.int .i64 0), (.int .i64 0), .nils])) fun v0 h1 =>
 bcall (E n_ref03_reader_number [t0, (.int .i64 10), (.int .i64 200)] h1) (fun v2 h3 =>
 bcall (E n_ref03_reader_at [t0, (.int .i64 0)] h3) (fun v4 h5 =>
 bnd (oBin .eql 6 v4 (.int .i64 42)) fun v6 =>
 cnd v6
 (bnd (oNil t0) fun v7 =>
 bnd (oFieldPtr v7 1) fun v8 =>
 bnd (oLoad false 1 h5 v8) fun v9 =>
 bnd (oBin .add 6 v9 (.int .i64 1)) fun v10 =>
 bnd (oNil t0) fun v11 =>
 bnd (oFieldPtr v11 1) fun v12 =>
 beff (oStore base 1 h5 v12 v10) fun v13 h14 =>
 bcall (E n_ref03_reader_number [t0, (.int .i64 10), (.int .i64 200)] h14) (fun v15 h16 =>
 ref03_reader_repeat_j1 base t0 t1 v0 v2 v15 v6 h16)
 (fun v15 h16 => pn false base v15 h16))
 (ref03_reader_repeat_j1 base t0 t1 v0 v2 v2 v6 h5))
 (fun v4 h5 => pn false base v4 h5))
 (fun v2 h3 => pn false base v2 h3) := by kernel_rfl
theorem ref03_reader_repeat_E (t0 t1 : V) (H : Heap) : E n_ref03_reader_repeat [t0, t1] H = ref03_reader_repeat H.length t0 t1 H := (EV_at Tryd.func79 (by kernel_rfl) (by kernel_rfl) (by kernel_rfl)).trans (by kernel_rfl)

def ref03_reader_begins_c : Code := bodyOf Tryd.f80
def ref03_reader_begins_ks : Ks := []
def ref03_reader_begins_e (base : Nat) : KC (Out × Heap) := xEnd Tryd.prog D false base 32 Tryd.f80.results.toList
def ref03_reader_begins_C (base : Nat) (c : Code) (k : KC (Out × Heap)) (t : Ts) (H : Heap) (d : Ds) : Option (Out × Heap) := xC Tryd.prog base false ref03_reader_begins_ks E 32 c k t H d
def ref03_reader_begins (base : Nat) (t0 : V) (H : Heap) : Option (Out × Heap) := ref03_reader_begins_C base ref03_reader_begins_c (ref03_reader_begins_e base) [(0, t0)] H []
theorem ref03_reader_begins_eq (base : Nat) (t0 : V) (H : Heap) : ref03_reader_begins base t0 H =
 bcall (E n_ref03_reader_at [t0, (.int .i64 0)] H) (fun v0 h1 =>
 bcall (E n_ref03_alpha [v0] h1) (fun v2 h3 =>
 bnd (gua v2 false (oMove v0) (some (.tup []))) fun v4 =>
 bcall (gua v2 false (E n_ref03_digit [v4] h3) (some (.ret (.tup []), h3))) (fun v5 h6 =>
 bnd (oPick v2 (.bool true) v5) fun v7 =>
 bnd (gua v7 false (oMove v0) (some (.tup []))) fun v8 =>
 bnd (gua v7 false (oBin .eql 6 v8 (.int .i64 34)) (some (.tup []))) fun v9 =>
 bnd (oPick v7 (.bool true) v9) fun v10 =>
 bnd (gua v10 false (oMove v0) (some (.tup []))) fun v11 =>
 bnd (gua v10 false (oBin .eql 6 v11 (.int .i64 37)) (some (.tup []))) fun v12 =>
 bnd (oPick v10 (.bool true) v12) fun v13 =>
 bnd (gua v13 false (oMove v0) (some (.tup []))) fun v14 =>
 bnd (gua v13 false (oBin .eql 6 v14 (.int .i64 40)) (some (.tup []))) fun v15 =>
 bnd (oPick v13 (.bool true) v15) fun v16 =>
 bnd (gua v16 false (oMove v0) (some (.tup []))) fun v17 =>
 bnd (gua v16 false (oBin .eql 6 v17 (.int .i64 42)) (some (.tup []))) fun v18 =>
 bnd (oPick v16 (.bool true) v18) fun v19 =>
 bnd (gua v19 false (oMove v0) (some (.tup []))) fun v20 =>
 bnd (gua v19 false (oBin .eql 6 v20 (.int .i64 91)) (some (.tup []))) fun v21 =>
 bnd (oPick v19 (.bool true) v21) fun v22 =>
 rt false base v22 h6)
 (fun v5 h6 => pn false base v5 h6))
 (fun v2 h3 => pn false base v2 h3))
 (fun v0 h1 => pn false base v0 h1) := by kernel_rfl
theorem ref03_reader_begins_E (t0 : V) (H : Heap) : E n_ref03_reader_begins [t0] H = ref03_reader_begins H.length t0 H := (EV_at Tryd.func80 (by kernel_rfl) (by kernel_rfl) (by kernel_rfl)).trans (by kernel_rfl)

def slices_IndexFunc_int_int_c : Code := bodyOf Tryd.f81
def slices_IndexFunc_int_int_ks : Ks := [(2, [0, 1, 7, 8])]
def slices_IndexFunc_int_int_e (base : Nat) : KC (Out × Heap) := xEnd Tryd.prog D false base 19 Tryd.f81.results.toList
def slices_IndexFunc_int_int_C (base : Nat) (c : Code) (k : KC (Out × Heap)) (t : Ts) (H : Heap) (d : Ds) : Option (Out × Heap) := xC Tryd.prog base false slices_IndexFunc_int_int_ks E 19 c k t H d
def slices_IndexFunc_int_int_l1 (base : Nat) (t0 t1 t7 t8 : V) (H : Heap) : Option (Out × Heap) :=
iterL (fun t H d again => slices_IndexFunc_int_int_C base (cAt [1, 0, 1, 0, 0] slices_IndexFunc_int_int_c) (loopK slices_IndexFunc_int_int_ks (cAt [1, 0, 1, 0, 0] slices_IndexFunc_int_int_c) again ((blockK 0 ((seqK (fun _ t => slices_IndexFunc_int_int_C base (cAt [1, 1] slices_IndexFunc_int_int_c) (slices_IndexFunc_int_int_e base) (trimA slices_IndexFunc_int_int_ks (cAt [1, 1] slices_IndexFunc_int_int_c) t)) (slices_IndexFunc_int_int_e base)))))) t H d) [(0, t0), (1, t1), (7, t7), (8, t8)] H []
theorem slices_IndexFunc_int_int_l1_eq (base : Nat) (t0 t1 t7 t8 : V) (H : Heap) : slices_IndexFunc_int_int_l1 base t0 t1 t7 t8 H =
 bnd (oBin .lss 6 t8 t7) fun v1 =>
 cnd v1
 (bnd (oIndexPtr 1 t0 t8) fun v2 =>
 bnd (oLoad false 1 H v2) fun v3 =>
 bcall (oDyn E t1 [v3] H) (fun v4 h5 =>
 cnd v4
 (rt false base t8 h5)
 (bnd (oBin .add 6 t8 (.int .i64 1)) fun v6 =>
 slices_IndexFunc_int_int_l1 base t0 t1 t7 v6 h5))
 (fun v4 h5 => pn false base v4 h5))
 (rt false base (.int .i64 (-1)) H) := (loop_eq (cAt [1, 0, 1, 0, 0] slices_IndexFunc_int_int_c) ((blockK 0 ((seqK (fun _ t => slices_IndexFunc_int_int_C base (cAt [1, 1] slices_IndexFunc_int_int_c) (slices_IndexFunc_int_int_e base) (trimA slices_IndexFunc_int_int_ks (cAt [1, 1] slices_IndexFunc_int_int_c) t)) (slices_IndexFunc_int_int_e base))))) _ H []).trans (by kernel_rfl)
def slices_IndexFunc_int_int (base : Nat) (t0 t1 : V) (H : Heap) : Option (Out × Heap) := slices_IndexFunc_int_int_C base slices_IndexFunc_int_int_c (slices_IndexFunc_int_int_e base) [(0, t0), (1, t1)] H []
theorem slices_IndexFunc_int_int_eq (base : Nat) (t0 t1 : V) (H : Heap) : slices_IndexFunc_int_int base t0 t1 H =
 bnd (oLenSl t0) fun v0 =>
 slices_IndexFunc_int_int_l1 base t0 t1 v0 (.int .i64 0) H := by kernel_rfl
theorem slices_IndexFunc_int_int_E (t0 t1 : V) (H : Heap) : E n_slices_IndexFunc_int_int [t0, t1] H = slices_IndexFunc_int_int H.length t0 t1 H := (EV_at Tryd.func81 (by kernel_rfl) (by kernel_rfl) (by kernel_rfl)).trans (by kernel_rfl)

def internal_strconv_FormatInt_c : Code := bodyOf Tryd.f83
def internal_strconv_FormatInt_ks : Ks := [(8, [0, 5, 6])]
def internal_strconv_FormatInt_e (base : Nat) : KC (Out × Heap) := xEnd Tryd.prog D false base 54 Tryd.f83.results.toList
def internal_strconv_FormatInt_C (base : Nat) (c : Code) (k : KC (Out × Heap)) (t : Ts) (H : Heap) (d : Ds) : Option (Out × Heap) := xC Tryd.prog base false internal_strconv_FormatInt_ks E 54 c k t H d
def internal_strconv_FormatInt_j1 (base : Nat) (t0 t5 t6 : V) (H : Heap) : Option (Out × Heap) :=
internal_strconv_FormatInt_C base (cAt [1, 0, 1, 0, 1, 1, 1, 1] internal_strconv_FormatInt_c) ((seqK (fun _ t => internal_strconv_FormatInt_C base (cAt [1, 1] internal_strconv_FormatInt_c) (internal_strconv_FormatInt_e base) (trimA internal_strconv_FormatInt_ks (cAt [1, 1] internal_strconv_FormatInt_c) t)) (internal_strconv_FormatInt_e base))) [(0, t0), (5, t5), (6, t6)] H []
theorem internal_strconv_FormatInt_j1_eq (base : Nat) (t0 t5 t6 : V) (H : Heap) : internal_strconv_FormatInt_j1 base t0 t5 t6 H =
 bcall (E n_internal_strconv_numDigits [t6] H) (fun v12 h13 =>
 bnd (oBin .add 6 (.int .i64 1) v12) fun v14 =>
 beff (oSliceA 1 24 false t5 (some (.int .i64 1)) (some v14) none h13) fun v15 h16 =>
 bcall (E n_internal_strconv_formatBase10 [v15, t6] h16) (fun v17 h18 =>
 bnd (oBin .lss 6 t0 (.int .i64 0)) fun v19 =>
 cnd v19
 (bnd (oIndexPtrA 24 1 t5 (.int .i64 0)) fun v20 =>
 beff (oStore base 1 h18 v20 (.int .u8 45)) fun v21 h22 =>
 bnd (oBin .add 6 (.int .i64 1) v12) fun v23 =>
 beff (oSliceA 1 24 false t5 none (some v23) none h22) fun v24 h25 =>
 bnd (oText h25 v24) fun v26 =>
 rt false base v26 h25)
 (bnd (oBin .add 6 (.int .i64 1) v12) fun v27 =>
 beff (oSliceA 1 24 false t5 (some (.int .i64 1)) (some v27) none h18) fun v28 h29 =>
 bnd (oText h29 v28) fun v30 =>
 rt false base v30 h29))
 (fun v17 h18 => pn false base v17 h18))
 (fun v12 h13 => pn false base v12 h13) := by kernel_rfl
def internal_strconv_FormatInt (base : Nat) (t0 t1 : V) (H : Heap) : Option (Out × Heap) := internal_strconv_FormatInt_C base internal_strconv_FormatInt_c (internal_strconv_FormatInt_e base) [(0, t0), (1, t1)] H []
theorem internal_strconv_FormatInt_eq (base : Nat) (t0 t1 : V) (H : Heap) : internal_strconv_FormatInt base t0 t1 H =
 bnd (oBin .eql 6 t1 (.int .i64 10)) fun v0 =>
 cnd v0
 (bnd (oBin .leq 6 (.int .i64 0) t0) fun v1 =>
 bnd (gua v1 true (oMove t0) (some (.tup []))) fun v2 =>
 bnd (gua v1 true (oBin .lss 6 v2 (.int .i64 100)) (some (.tup []))) fun v3 =>
 bnd (oPick v1 v3 (.bool false)) fun v4 =>
 cnd v4
 (bcall (E n_internal_strconv_small [t0] H) (fun v5 h6 =>
 rt false base v5 h6)
 (fun v5 h6 => pn false base v5 h6))
 (beff (oVar H (.agg [(.int .u8 0), (.int .u8 0), (.int .u8 0), (.int .u8 0), (.int .u8 0), (.int .u8 0), (.int .u8 0), (.int .u8 0), (.int .u8 0), (.int .u8 0), (.int .u8 0), (.int .u8 0), (.int .u8 0), (.int .u8 0), (.int .u8 0), (.int .u8 0), (.int .u8 0), (.int .u8 0), (.int .u8 0), (.int .u8 0), (.int .u8 0), (.int .u8 0), (.int .u8 0), (.int .u8 0)])) fun v7 h8 =>
 bnd (oIntTo .u64 t0) fun v9 =>
 bnd (oBin .lss 6 t0 (.int .i64 0)) fun v10 =>
 cnd v10
 (bnd (oUn .neg v9) fun v11 =>
 internal_strconv_FormatInt_j1 base t0 v7 v11 h8)
 (internal_strconv_FormatInt_j1 base t0 v7 v9 h8)))
 (bnd (oIntTo .u64 t0) fun v31 =>
 bnd (oBin .lss 6 t0 (.int .i64 0)) fun v32 =>
 bcall (E n_internal_strconv_formatBits [.nils, v31, t1, v32, (.bool false)] H) (fun v33 h34 =>
 bnd (oExtract v33 0) fun v35 =>
 bnd (oExtract v33 1) fun v36 =>
 rt false base v36 h34)
 (fun v33 h34 => pn false base v33 h34)) := by kernel_rfl
theorem internal_strconv_FormatInt_E (t0 t1 : V) (H : Heap) : E n_internal_strconv_FormatInt [t0, t1] H = internal_strconv_FormatInt H.length t0 t1 H := (EV_at Tryd.func83 (by kernel_rfl) (by kernel_rfl) (by kernel_rfl)).trans (by kernel_rfl)

def ref03_reader_number_c : Code := bodyOf Tryd.f87
def ref03_reader_number_ks : Ks := [(2, [0, 1, 2, 7]), (9, [0, 1, 2, 7, 9]), (14, [0, 1, 2, 7])]
def ref03_reader_number_e (base : Nat) : KC (Out × Heap) := xEnd Tryd.prog D false base 55 Tryd.f87.results.toList
def ref03_reader_number_C (base : Nat) (c : Code) (k : KC (Out × Heap)) (t : Ts) (H : Heap) (d : Ds) : Option (Out × Heap) := xC Tryd.prog base false ref03_reader_number_ks E 55 c k t H d
def ref03_reader_number_l1 (base : Nat) (t0 t1 t2 t7 : V) (H : Heap) : Option (Out × Heap) :=
iterL (fun t H d again => ref03_reader_number_C base (cAt [1, 1, 0, 0, 0] ref03_reader_number_c) (loopK ref03_reader_number_ks (cAt [1, 1, 0, 0, 0] ref03_reader_number_c) again ((blockK 0 ((seqK (fun _ t => ref03_reader_number_C base (cAt [1, 1, 1] ref03_reader_number_c) (ref03_reader_number_e base) (trimA ref03_reader_number_ks (cAt [1, 1, 1] ref03_reader_number_c) t)) (ref03_reader_number_e base)))))) t H d) [(0, t0), (1, t1), (2, t2), (7, t7)] H []
def ref03_reader_number_j3 (base : Nat) (t0 t1 t2 t7 : V) (H : Heap) : Option (Out × Heap) :=
ref03_reader_number_C base (cAt [1, 1, 0, 0, 0, 1, 0, 1, 1, 1, 1, 1, 1] ref03_reader_number_c) ((blockK 1 ((loopK ref03_reader_number_ks (cAt [1, 1, 0, 0, 0] ref03_reader_number_c) (iterL (fun t H d again => ref03_reader_number_C base (cAt [1, 1, 0, 0, 0] ref03_reader_number_c) (loopK ref03_reader_number_ks (cAt [1, 1, 0, 0, 0] ref03_reader_number_c) again ((blockK 0 ((seqK (fun _ t => ref03_reader_number_C base (cAt [1, 1, 1] ref03_reader_number_c) (ref03_reader_number_e base) (trimA ref03_reader_number_ks (cAt [1, 1, 1] ref03_reader_number_c) t)) (ref03_reader_number_e base)))))) t H d)) ((blockK 0 ((seqK (fun _ t => ref03_reader_number_C base (cAt [1, 1, 1] ref03_reader_number_c) (ref03_reader_number_e base) (trimA ref03_reader_number_ks (cAt [1, 1, 1] ref03_reader_number_c) t)) (ref03_reader_number_e base))))))))) [(0, t0), (1, t1), (2, t2), (7, t7)] H []
theorem ref03_reader_number_j3_eq (base : Nat) (t0 t1 t2 t7 : V) (H : Heap) : ref03_reader_number_j3 base t0 t1 t2 t7 H =
 bnd (oNil t0) fun v16 =>
 bnd (oFieldPtr v16 1) fun v17 =>
 bnd (oLoad false 1 H v17) fun v18 =>
 bnd (oBin .add 6 v18 (.int .i64 1)) fun v19 =>
 bnd (oNil t0) fun v20 =>
 bnd (oFieldPtr v20 1) fun v21 =>
 beff (oStore base 1 H v21 v19) fun v22 h23 =>
 ref03_reader_number_l1 base t0 t1 t2 t7 h23 := by kernel_rfl
def ref03_reader_number_j2 (base : Nat) (t0 t1 t2 t7 t9 : V) (H : Heap) : Option (Out × Heap) :=
ref03_reader_number_C base (cAt [1, 1, 0, 0, 0, 1, 0, 1, 1, 1] ref03_reader_number_c) ((blockK 1 ((loopK ref03_reader_number_ks (cAt [1, 1, 0, 0, 0] ref03_reader_number_c) (iterL (fun t H d again => ref03_reader_number_C base (cAt [1, 1, 0, 0, 0] ref03_reader_number_c) (loopK ref03_reader_number_ks (cAt [1, 1, 0, 0, 0] ref03_reader_number_c) again ((blockK 0 ((seqK (fun _ t => ref03_reader_number_C base (cAt [1, 1, 1] ref03_reader_number_c) (ref03_reader_number_e base) (trimA ref03_reader_number_ks (cAt [1, 1, 1] ref03_reader_number_c) t)) (ref03_reader_number_e base)))))) t H d)) ((blockK 0 ((seqK (fun _ t => ref03_reader_number_C base (cAt [1, 1, 1] ref03_reader_number_c) (ref03_reader_number_e base) (trimA ref03_reader_number_ks (cAt [1, 1, 1] ref03_reader_number_c) t)) (ref03_reader_number_e base))))))))) [(0, t0), (1, t1), (2, t2), (7, t7), (9, t9)] H []
theorem ref03_reader_number_j2_eq (base : Nat) (t0 t1 t2 t7 t9 : V) (H : Heap) : ref03_reader_number_j2 base t0 t1 t2 t7 t9 H =
 bnd (oBin .geq 6 t9 t1) fun v9 =>
 cnd v9
 (rt false base t7 H)
 (bnd (oMax [t7, (.int .i64 0)]) fun v10 =>
 bnd (oBin .mul 6 v10 t1) fun v11 =>
 bnd (oBin .add 6 v11 t9) fun v12 =>
 bnd (oBin .gtr 6 v12 t2) fun v13 =>
 cnd v13
 (bcall (E n_ref03_reader_fail [t0, (.int .i64 2)] H) (fun v14 h15 =>
 ref03_reader_number_j3 base t0 t1 t2 v12 h15)
 (fun v14 h15 => pn false base v14 h15))
 (ref03_reader_number_j3 base t0 t1 t2 v12 H)) := by kernel_rfl
theorem ref03_reader_number_l1_eq (base : Nat) (t0 t1 t2 t7 : V) (H : Heap) : ref03_reader_number_l1 base t0 t1 t2 t7 H =
 bnd (oNil t0) fun v0 =>
 bnd (oFieldPtr v0 2) fun v1 =>
 bnd (oLoad false 1 H v1) fun v2 =>
 bnd (oBin .eql 6 v2 (.int .i64 0)) fun v3 =>
 cnd v3
 (bcall (E n_ref03_reader_at [t0, (.int .i64 0)] H) (fun v4 h5 =>
 bcall (E n_ref03_digit [v4] h5) (fun v6 h7 =>
 cnd v6
 (bnd (oBin .sub 6 v4 (.int .i64 48)) fun v8 =>
 ref03_reader_number_j2 base t0 t1 t2 t7 v8 h7)
 (bcall (E n_ref03_alpha [v4] h7) (fun v24 h25 =>
 bnd (gua v24 true (oMove v4) (some (.tup []))) fun v26 =>
 bnd (gua v24 true (oBin .or 6 v26 (.int .i64 32)) (some (.tup []))) fun v27 =>
 bnd (gua v24 true (oBin .leq 6 v27 (.int .i64 102)) (some (.tup []))) fun v28 =>
 bnd (oPick v24 v28 (.bool false)) fun v29 =>
 cnd v29
 (bnd (oBin .or 6 v4 (.int .i64 32)) fun v30 =>
 bnd (oBin .sub 6 v30 (.int .i64 87)) fun v31 =>
 ref03_reader_number_j2 base t0 t1 t2 t7 v31 h25)
 (ref03_reader_number_j2 base t0 t1 t2 t7 (.int .i64 99) h25))
 (fun v24 h25 => pn false base v24 h25)))
 (fun v6 h7 => pn false base v6 h7))
 (fun v4 h5 => pn false base v4 h5))
 (rt false base (.int .i64 (-1)) H) := (loop_eq (cAt [1, 1, 0, 0, 0] ref03_reader_number_c) ((blockK 0 ((seqK (fun _ t => ref03_reader_number_C base (cAt [1, 1, 1] ref03_reader_number_c) (ref03_reader_number_e base) (trimA ref03_reader_number_ks (cAt [1, 1, 1] ref03_reader_number_c) t)) (ref03_reader_number_e base))))) _ H []).trans (by kernel_rfl)
def ref03_reader_number (base : Nat) (t0 t1 t2 : V) (H : Heap) : Option (Out × Heap) := ref03_reader_number_C base ref03_reader_number_c (ref03_reader_number_e base) [(0, t0), (1, t1), (2, t2)] H []
theorem ref03_reader_number_eq (base : Nat) (t0 t1 t2 : V) (H : Heap) : ref03_reader_number base t0 t1 t2 H =
 ref03_reader_number_l1 base t0 t1 t2 (.int .i64 (-1)) H := by kernel_rfl
theorem ref03_reader_number_E (t0 t1 t2 : V) (H : Heap) : E n_ref03_reader_number [t0, t1, t2] H = ref03_reader_number H.length t0 t1 t2 H := (EV_at Tryd.func87 (by kernel_rfl) (by kernel_rfl) (by kernel_rfl)).trans (by kernel_rfl)

def ref03_reader_element_c : Code := bodyOf Tryd.f88
def ref03_reader_element_ks : Ks := []
def ref03_reader_element_e (base : Nat) : KC (Out × Heap) := xEnd Tryd.prog D false base 42 Tryd.f88.results.toList
def ref03_reader_element_C (base : Nat) (c : Code) (k : KC (Out × Heap)) (t : Ts) (H : Heap) (d : Ds) : Option (Out × Heap) := xC Tryd.prog base false ref03_reader_element_ks E 42 c k t H d
def ref03_reader_element (base : Nat) (t0 t1 : V) (H : Heap) : Option (Out × Heap) := ref03_reader_element_C base ref03_reader_element_c (ref03_reader_element_e base) [(0, t0), (1, t1)] H []
theorem ref03_reader_element_eq (base : Nat) (t0 t1 : V) (H : Heap) : ref03_reader_element base t0 t1 H =
 beff (oVar H (.agg [(.int .i64 0), (.str []), .nils, (.int .i64 0), (.int .i64 0), .nils])) fun v0 h1 =>
 bcall (E n_ref03_reader_at [t0, (.int .i64 0)] h1) (fun v2 h3 =>
 bnd (oNil t0) fun v4 =>
 bnd (oFieldPtr v4 2) fun v5 =>
 bnd (oLoad false 1 h3 v5) fun v6 =>
 bnd (oBin .neq 6 v6 (.int .i64 0)) fun v7 =>
 cnd v7
 (bnd (oBuild [(.int .i64 0), (.str []), .nils, (.int .i64 0), (.int .i64 0), .nils] [(0, 1), (1, 1), (2, 1), (3, 1), (4, 1), (5, 1)] []) fun v8 =>
 beff (oStore base 6 h3 v0 v8) fun v9 h10 =>
 bnd (oLoad true 6 h10 v0) fun v11 =>
 rt false base v11 h10)
 (bnd (oBin .eql 6 v2 (.int .i64 40)) fun v12 =>
 cnd v12
 (bcall (E n_ref03_reader_group [t0, (.int .i64 41), t1] h3) (fun v13 h14 =>
 beff (oStore base 6 h14 v0 v13) fun v15 h16 =>
 bnd (oLoad true 6 h16 v0) fun v17 =>
 rt false base v17 h16)
 (fun v13 h14 => pn false base v13 h14))
 (bnd (oBin .eql 6 v2 (.int .i64 91)) fun v18 =>
 cnd v18
 (bcall (E n_ref03_reader_group [t0, (.int .i64 93), t1] h3) (fun v19 h20 =>
 bnd (oLit 6 1 (.agg [(.int .i64 0), (.str []), (.vs []), (.int .i64 0), (.int .i64 0), (.vs [])]) [(0, v19)]) fun v21 =>
 bnd (oBuild [(.int .i64 0), (.str []), .nils, (.int .i64 0), (.int .i64 0), .nils] [(0, 1), (1, 1), (2, 1), (3, 1), (4, 1), (5, 1)] [(0, (.int .i64 3)), (4, (.int .i64 1)), (5, v21)]) fun v22 =>
 beff (oStore base 6 h20 v0 v22) fun v23 h24 =>
 bnd (oLoad true 6 h24 v0) fun v25 =>
 rt false base v25 h24)
 (fun v19 h20 => pn false base v19 h20))
 (bnd (oBin .eql 6 v2 (.int .i64 34)) fun v26 =>
 cnd v26
 (bcall (E n_ref03_reader_text [t0, (.bool true)] h3) (fun v27 h28 =>
 beff (oStore base 6 h28 v0 v27) fun v29 h30 =>
 bnd (oLoad true 6 h30 v0) fun v31 =>
 rt false base v31 h30)
 (fun v27 h28 => pn false base v27 h28))
 (bnd (oBin .eql 6 v2 (.int .i64 37)) fun v32 =>
 cnd v32
 (bcall (E n_ref03_reader_value [t0] h3) (fun v33 h34 =>
 beff (oStore base 6 h34 v0 v33) fun v35 h36 =>
 bnd (oLoad true 6 h36 v0) fun v37 =>
 rt false base v37 h36)
 (fun v33 h34 => pn false base v33 h34))
 (bcall (E n_ref03_reader_name [t0] h3) (fun v38 h39 =>
 bnd (oBuild [(.int .i64 0), (.str []), .nils, (.int .i64 0), (.int .i64 0), .nils] [(0, 1), (1, 1), (2, 1), (3, 1), (4, 1), (5, 1)] [(0, (.int .i64 4)), (1, v38)]) fun v40 =>
 beff (oStore base 6 h39 v0 v40) fun v41 h42 =>
 bnd (oLoad true 6 h42 v0) fun v43 =>
 rt false base v43 h42)
 (fun v38 h39 => pn false base v38 h39)))))))
 (fun v2 h3 => pn false base v2 h3) := by kernel_rfl
theorem ref03_reader_element_E (t0 t1 : V) (H : Heap) : E n_ref03_reader_element [t0, t1] H = ref03_reader_element H.length t0 t1 H := (EV_at Tryd.func88 (by kernel_rfl) (by kernel_rfl) (by kernel_rfl)).trans (by kernel_rfl)

def internal_strconv_formatBits_c : Code := bodyOf Tryd.f92
def internal_strconv_formatBits_ks : Ks := [(3, [0, 1, 2, 3, 4, 10, 11]), (7, [0, 1, 2, 3, 4, 10, 11, 12, 13]), (11, [0, 1, 3, 4, 10, 11, 12, 13, 14, 15, 16]), (18, [0, 1, 3, 4, 10, 11, 12, 13, 17]), (25, [0, 3, 4, 10, 11, 12, 13]), (28, [0, 4, 10, 11, 12, 13])]
def internal_strconv_formatBits_e (base : Nat) : KC (Out × Heap) := xEnd Tryd.prog D false base 102 Tryd.f92.results.toList
def internal_strconv_formatBits_C (base : Nat) (c : Code) (k : KC (Out × Heap)) (t : Ts) (H : Heap) (d : Ds) : Option (Out × Heap) := xC Tryd.prog base false internal_strconv_formatBits_ks E 102 c k t H d
def internal_strconv_formatBits_l3 (base : Nat) (t0 t1 t3 t4 t10 t11 t12 t13 t14 t15 t16 : V) (H : Heap) : Option (Out × Heap) :=
iterL (fun t H d again => internal_strconv_formatBits_C base (cAt [1, 1, 1, 1, 1, 0, 1, 0, 1, 1, 1, 0, 0, 0] internal_strconv_formatBits_c) (loopK internal_strconv_formatBits_ks (cAt [1, 1, 1, 1, 1, 0, 1, 0, 1, 1, 1, 0, 0, 0] internal_strconv_formatBits_c) again ((blockK 0 ((seqK (fun _ t => internal_strconv_formatBits_C base (cAt [1, 1, 1, 1, 1, 0, 1, 0, 1, 1, 1, 1] internal_strconv_formatBits_c) ((seqK (fun _ t => internal_strconv_formatBits_C base (cAt [1, 1, 1, 1, 1, 1] internal_strconv_formatBits_c) (internal_strconv_formatBits_e base) (trimA internal_strconv_formatBits_ks (cAt [1, 1, 1, 1, 1, 1] internal_strconv_formatBits_c) t)) (internal_strconv_formatBits_e base))) (trimA internal_strconv_formatBits_ks (cAt [1, 1, 1, 1, 1, 0, 1, 0, 1, 1, 1, 1] internal_strconv_formatBits_c) t)) ((seqK (fun _ t => internal_strconv_formatBits_C base (cAt [1, 1, 1, 1, 1, 1] internal_strconv_formatBits_c) (internal_strconv_formatBits_e base) (trimA internal_strconv_formatBits_ks (cAt [1, 1, 1, 1, 1, 1] internal_strconv_formatBits_c) t)) (internal_strconv_formatBits_e base)))))))) t H d) [(0, t0), (1, t1), (3, t3), (4, t4), (10, t10), (11, t11), (12, t12), (13, t13), (14, t14), (15, t15), (16, t16)] H []
def internal_strconv_formatBits_j5 (base : Nat) (t0 t4 t10 t11 t12 t13 : V) (H : Heap) : Option (Out × Heap) :=
internal_strconv_formatBits_C base (cAt [1, 1, 1, 1, 1, 1, 1] internal_strconv_formatBits_c) (internal_strconv_formatBits_e base) [(0, t0), (4, t4), (10, t10), (11, t11), (12, t12), (13, t13)] H []
theorem internal_strconv_formatBits_j5_eq (base : Nat) (t0 t4 t10 t11 t12 t13 : V) (H : Heap) : internal_strconv_formatBits_j5 base t0 t4 t10 t11 t12 t13 H =
 cnd t4
 (beff (oSliceA 1 65 false t12 (some t13) none none H) fun v38 h39 =>
 beff (oAppend base 1 1 false t0 v38 h39) fun v40 h41 =>
 rt false base (.tup [v40, t11]) h41)
 (beff (oSliceA 1 65 false t12 (some t13) none none H) fun v42 h43 =>
 bnd (oText h43 v42) fun v44 =>
 rt false base (.tup [t10, v44]) h43) := by kernel_rfl
def internal_strconv_formatBits_j4 (base : Nat) (t0 t3 t4 t10 t11 t12 t13 : V) (H : Heap) : Option (Out × Heap) :=
internal_strconv_formatBits_C base (cAt [1, 1, 1, 1, 1, 1] internal_strconv_formatBits_c) (internal_strconv_formatBits_e base) [(0, t0), (3, t3), (4, t4), (10, t10), (11, t11), (12, t12), (13, t13)] H []
theorem internal_strconv_formatBits_j4_eq (base : Nat) (t0 t3 t4 t10 t11 t12 t13 : V) (H : Heap) : internal_strconv_formatBits_j4 base t0 t3 t4 t10 t11 t12 t13 H =
 cnd t3
 (bnd (oBin .sub 6 t13 (.int .i64 1)) fun v34 =>
 bnd (oIndexPtrA 65 1 t12 v34) fun v35 =>
 beff (oStore base 1 H v35 (.int .u8 45)) fun v36 h37 =>
 internal_strconv_formatBits_j5 base t0 t4 t10 t11 t12 v34 h37)
 (internal_strconv_formatBits_j5 base t0 t4 t10 t11 t12 t13 H) := by kernel_rfl
theorem internal_strconv_formatBits_l3_eq (base : Nat) (t0 t1 t3 t4 t10 t11 t12 t13 t14 t15 t16 : V) (H : Heap) : internal_strconv_formatBits_l3 base t0 t1 t3 t4 t10 t11 t12 t13 t14 t15 t16 H =
 bnd (oBin .geq 6 t1 t15) fun v21 =>
 cnd v21
 (bnd (oBin .sub 6 t13 (.int .i64 1)) fun v22 =>
 bnd (oBin .and 6 t1 t16) fun v23 =>
 bnd (oIndexStr (.str [48, 49, 50, 51, 52, 53, 54, 55, 56, 57, 97, 98, 99, 100, 101, 102, 103, 104, 105, 106, 107, 108, 109, 110, 111, 112, 113, 114, 115, 116, 117, 118, 119, 120, 121, 122]) v23) fun v24 =>
 bnd (oIndexPtrA 65 1 t12 v22) fun v25 =>
 beff (oStore base 1 H v25 v24) fun v26 h27 =>
 bnd (oBin .shr 6 t1 t14) fun v28 =>
 internal_strconv_formatBits_l3 base t0 v28 t3 t4 t10 t11 t12 v22 t14 t15 t16 h27)
 (bnd (oBin .sub 6 t13 (.int .i64 1)) fun v29 =>
 bnd (oIndexStr (.str [48, 49, 50, 51, 52, 53, 54, 55, 56, 57, 97, 98, 99, 100, 101, 102, 103, 104, 105, 106, 107, 108, 109, 110, 111, 112, 113, 114, 115, 116, 117, 118, 119, 120, 121, 122]) t1) fun v30 =>
 bnd (oIndexPtrA 65 1 t12 v29) fun v31 =>
 beff (oStore base 1 H v31 v30) fun v32 h33 =>
 internal_strconv_formatBits_j4 base t0 t3 t4 t10 t11 t12 v29 h33) := (loop_eq (cAt [1, 1, 1, 1, 1, 0, 1, 0, 1, 1, 1, 0, 0, 0] internal_strconv_formatBits_c) ((blockK 0 ((seqK (fun _ t => internal_strconv_formatBits_C base (cAt [1, 1, 1, 1, 1, 0, 1, 0, 1, 1, 1, 1] internal_strconv_formatBits_c) ((seqK (fun _ t => internal_strconv_formatBits_C base (cAt [1, 1, 1, 1, 1, 1] internal_strconv_formatBits_c) (internal_strconv_formatBits_e base) (trimA internal_strconv_formatBits_ks (cAt [1, 1, 1, 1, 1, 1] internal_strconv_formatBits_c) t)) (internal_strconv_formatBits_e base))) (trimA internal_strconv_formatBits_ks (cAt [1, 1, 1, 1, 1, 0, 1, 0, 1, 1, 1, 1] internal_strconv_formatBits_c) t)) ((seqK (fun _ t => internal_strconv_formatBits_C base (cAt [1, 1, 1, 1, 1, 1] internal_strconv_formatBits_c) (internal_strconv_formatBits_e base) (trimA internal_strconv_formatBits_ks (cAt [1, 1, 1, 1, 1, 1] internal_strconv_formatBits_c) t)) (internal_strconv_formatBits_e base))))))) _ H []).trans (by kernel_rfl)
def internal_strconv_formatBits_l6 (base : Nat) (t0 t1 t3 t4 t10 t11 t12 t13 t17 : V) (H : Heap) : Option (Out × Heap) :=
iterL (fun t H d again => internal_strconv_formatBits_C base (cAt [1, 1, 1, 1, 1, 0, 1, 1, 1, 0, 0, 0] internal_strconv_formatBits_c) (loopK internal_strconv_formatBits_ks (cAt [1, 1, 1, 1, 1, 0, 1, 1, 1, 0, 0, 0] internal_strconv_formatBits_c) again ((blockK 2 ((seqK (fun _ t => internal_strconv_formatBits_C base (cAt [1, 1, 1, 1, 1, 0, 1, 1, 1, 1] internal_strconv_formatBits_c) ((seqK (fun _ t => internal_strconv_formatBits_C base (cAt [1, 1, 1, 1, 1, 1] internal_strconv_formatBits_c) (internal_strconv_formatBits_e base) (trimA internal_strconv_formatBits_ks (cAt [1, 1, 1, 1, 1, 1] internal_strconv_formatBits_c) t)) (internal_strconv_formatBits_e base))) (trimA internal_strconv_formatBits_ks (cAt [1, 1, 1, 1, 1, 0, 1, 1, 1, 1] internal_strconv_formatBits_c) t)) ((seqK (fun _ t => internal_strconv_formatBits_C base (cAt [1, 1, 1, 1, 1, 1] internal_strconv_formatBits_c) (internal_strconv_formatBits_e base) (trimA internal_strconv_formatBits_ks (cAt [1, 1, 1, 1, 1, 1] internal_strconv_formatBits_c) t)) (internal_strconv_formatBits_e base)))))))) t H d) [(0, t0), (1, t1), (3, t3), (4, t4), (10, t10), (11, t11), (12, t12), (13, t13), (17, t17)] H []
theorem internal_strconv_formatBits_l6_eq (base : Nat) (t0 t1 t3 t4 t10 t11 t12 t13 t17 : V) (H : Heap) : internal_strconv_formatBits_l6 base t0 t1 t3 t4 t10 t11 t12 t13 t17 H =
 bnd (oBin .geq 6 t1 t17) fun v46 =>
 cnd v46
 (bnd (oBin .sub 6 t13 (.int .i64 1)) fun v47 =>
 bnd (oBin .quo 6 t1 t17) fun v48 =>
 bnd (oBin .mul 6 v48 t17) fun v49 =>
 bnd (oBin .sub 6 t1 v49) fun v50 =>
 bnd (oIndexStr (.str [48, 49, 50, 51, 52, 53, 54, 55, 56, 57, 97, 98, 99, 100, 101, 102, 103, 104, 105, 106, 107, 108, 109, 110, 111, 112, 113, 114, 115, 116, 117, 118, 119, 120, 121, 122]) v50) fun v51 =>
 bnd (oIndexPtrA 65 1 t12 v47) fun v52 =>
 beff (oStore base 1 H v52 v51) fun v53 h54 =>
 internal_strconv_formatBits_l6 base t0 v48 t3 t4 t10 t11 t12 v47 t17 h54)
 (bnd (oBin .sub 6 t13 (.int .i64 1)) fun v55 =>
 bnd (oIndexStr (.str [48, 49, 50, 51, 52, 53, 54, 55, 56, 57, 97, 98, 99, 100, 101, 102, 103, 104, 105, 106, 107, 108, 109, 110, 111, 112, 113, 114, 115, 116, 117, 118, 119, 120, 121, 122]) t1) fun v56 =>
 bnd (oIndexPtrA 65 1 t12 v55) fun v57 =>
 beff (oStore base 1 H v57 v56) fun v58 h59 =>
 internal_strconv_formatBits_j4 base t0 t3 t4 t10 t11 t12 v55 h59) := (loop_eq (cAt [1, 1, 1, 1, 1, 0, 1, 1, 1, 0, 0, 0] internal_strconv_formatBits_c) ((blockK 2 ((seqK (fun _ t => internal_strconv_formatBits_C base (cAt [1, 1, 1, 1, 1, 0, 1, 1, 1, 1] internal_strconv_formatBits_c) ((seqK (fun _ t => internal_strconv_formatBits_C base (cAt [1, 1, 1, 1, 1, 1] internal_strconv_formatBits_c) (internal_strconv_formatBits_e base) (trimA internal_strconv_formatBits_ks (cAt [1, 1, 1, 1, 1, 1] internal_strconv_formatBits_c) t)) (internal_strconv_formatBits_e base))) (trimA internal_strconv_formatBits_ks (cAt [1, 1, 1, 1, 1, 0, 1, 1, 1, 1] internal_strconv_formatBits_c) t)) ((seqK (fun _ t => internal_strconv_formatBits_C base (cAt [1, 1, 1, 1, 1, 1] internal_strconv_formatBits_c) (internal_strconv_formatBits_e base) (trimA internal_strconv_formatBits_ks (cAt [1, 1, 1, 1, 1, 1] internal_strconv_formatBits_c) t)) (internal_strconv_formatBits_e base))))))) _ H []).trans (by kernel_rfl)
def internal_strconv_formatBits_j2 (base : Nat) (t0 t1 t2 t3 t4 t10 t11 t12 t13 : V) (H : Heap) : Option (Out × Heap) :=
internal_strconv_formatBits_C base (cAt [1, 1, 1, 1, 1] internal_strconv_formatBits_c) (internal_strconv_formatBits_e base) [(0, t0), (1, t1), (2, t2), (3, t3), (4, t4), (10, t10), (11, t11), (12, t12), (13, t13)] H []
theorem internal_strconv_formatBits_j2_eq (base : Nat) (t0 t1 t2 t3 t4 t10 t11 t12 t13 : V) (H : Heap) : internal_strconv_formatBits_j2 base t0 t1 t2 t3 t4 t10 t11 t12 t13 H =
 bcall (E n_internal_strconv_isPowerOfTwo [t2] H) (fun v12 h13 =>
 cnd v12
 (bnd (oIntTo .u64 t2) fun v14 =>
 bcall (E n_math_bits_TrailingZeros [v14] h13) (fun v15 h16 =>
 bnd (oIntTo .u64 v15) fun v17 =>
 bnd (oIntTo .u64 t2) fun v18 =>
 bnd (oIntTo .u64 t2) fun v19 =>
 bnd (oBin .sub 6 v19 (.int .u64 1)) fun v20 =>
 internal_strconv_formatBits_l3 base t0 t1 t3 t4 t10 t11 t12 t13 v17 v18 v20 h16)
 (fun v15 h16 => pn false base v15 h16))
 (bnd (oIntTo .u64 t2) fun v45 =>
 internal_strconv_formatBits_l6 base t0 t1 t3 t4 t10 t11 t12 t13 v45 h13))
 (fun v12 h13 => pn false base v12 h13) := by kernel_rfl
def internal_strconv_formatBits_j1 (base : Nat) (t0 t1 t2 t3 t4 t10 t11 : V) (H : Heap) : Option (Out × Heap) :=
internal_strconv_formatBits_C base (cAt [1, 1] internal_strconv_formatBits_c) (internal_strconv_formatBits_e base) [(0, t0), (1, t1), (2, t2), (3, t3), (4, t4), (10, t10), (11, t11)] H []
theorem internal_strconv_formatBits_j1_eq (base : Nat) (t0 t1 t2 t3 t4 t10 t11 : V) (H : Heap) : internal_strconv_formatBits_j1 base t0 t1 t2 t3 t4 t10 t11 H =
 beff (oVar H (.agg [(.int .u8 0), (.int .u8 0), (.int .u8 0), (.int .u8 0), (.int .u8 0), (.int .u8 0), (.int .u8 0), (.int .u8 0), (.int .u8 0), (.int .u8 0), (.int .u8 0), (.int .u8 0), (.int .u8 0), (.int .u8 0), (.int .u8 0), (.int .u8 0), (.int .u8 0), (.int .u8 0), (.int .u8 0), (.int .u8 0), (.int .u8 0), (.int .u8 0), (.int .u8 0), (.int .u8 0), (.int .u8 0), (.int .u8 0), (.int .u8 0), (.int .u8 0), (.int .u8 0), (.int .u8 0), (.int .u8 0), (.int .u8 0), (.int .u8 0), (.int .u8 0), (.int .u8 0), (.int .u8 0), (.int .u8 0), (.int .u8 0), (.int .u8 0), (.int .u8 0), (.int .u8 0), (.int .u8 0), (.int .u8 0), (.int .u8 0), (.int .u8 0), (.int .u8 0), (.int .u8 0), (.int .u8 0), (.int .u8 0), (.int .u8 0), (.int .u8 0), (.int .u8 0), (.int .u8 0), (.int .u8 0), (.int .u8 0), (.int .u8 0), (.int .u8 0), (.int .u8 0), (.int .u8 0), (.int .u8 0), (.int .u8 0), (.int .u8 0), (.int .u8 0), (.int .u8 0), (.int .u8 0)])) fun v9 h10 =>
 cnd t3
 (bnd (oUn .neg t1) fun v11 =>
 internal_strconv_formatBits_j2 base t0 v11 t2 t3 t4 t10 t11 v9 (.int .i64 65) h10)
 (internal_strconv_formatBits_j2 base t0 t1 t2 t3 t4 t10 t11 v9 (.int .i64 65) h10) := by kernel_rfl
def internal_strconv_formatBits (base : Nat) (t0 t1 t2 t3 t4 : V) (H : Heap) : Option (Out × Heap) := internal_strconv_formatBits_C base internal_strconv_formatBits_c (internal_strconv_formatBits_e base) [(0, t0), (1, t1), (2, t2), (3, t3), (4, t4)] H []
theorem internal_strconv_formatBits_eq (base : Nat) (t0 t1 t2 t3 t4 : V) (H : Heap) : internal_strconv_formatBits base t0 t1 t2 t3 t4 H =
 bnd (oBin .lss 6 t2 (.int .i64 2)) fun v0 =>
 bnd (gua v0 false (oMove t2) (some (.tup []))) fun v1 =>
 bnd (gua v0 false (oBin .eql 6 v1 (.int .i64 10)) (some (.tup []))) fun v2 =>
 bnd (oPick v0 (.bool true) v2) fun v3 =>
 bnd (gua v3 false (oMove t2) (some (.tup []))) fun v4 =>
 bnd (gua v3 false (oBin .gtr 6 v4 (.int .i64 36)) (some (.tup []))) fun v5 =>
 bnd (oPick v3 (.bool true) v5) fun v6 =>
 cnd v6
 (bnd (oIface ty_string (.str [115, 116, 114, 99, 111, 110, 118, 58, 32, 105, 108, 108, 101, 103, 97, 108, 32, 65, 112, 112, 101, 110, 100, 73, 110, 116, 47, 70, 111, 114, 109, 97, 116, 73, 110, 116, 32, 98, 97, 115, 101])) fun v7 =>
 bnd (oPanic v7) fun v8 => pn false base v8 H)
 (internal_strconv_formatBits_j1 base t0 t1 t2 t3 t4 .nils (.str []) H) := by kernel_rfl
theorem internal_strconv_formatBits_E (t0 t1 t2 t3 t4 : V) (H : Heap) : E n_internal_strconv_formatBits [t0, t1, t2, t3, t4] H = internal_strconv_formatBits H.length t0 t1 t2 t3 t4 H := (EV_at Tryd.func92 (by kernel_rfl) (by kernel_rfl) (by kernel_rfl)).trans (by kernel_rfl)

def ref03_reader_group_c : Code := bodyOf Tryd.f98
def ref03_reader_group_ks : Ks := [(4, [0, 1, 2, 6]), (9, [0, 6, 7])]
def ref03_reader_group_e (base : Nat) : KC (Out × Heap) := xEnd Tryd.prog D false base 41 Tryd.f98.results.toList
def ref03_reader_group_C (base : Nat) (c : Code) (k : KC (Out × Heap)) (t : Ts) (H : Heap) (d : Ds) : Option (Out × Heap) := xC Tryd.prog base false ref03_reader_group_ks E 41 c k t H d
def ref03_reader_group_j2 (base : Nat) (t0 t6 t7 : V) (H : Heap) : Option (Out × Heap) :=
ref03_reader_group_C base (cAt [1, 1, 1, 1, 1, 1, 1] ref03_reader_group_c) (ref03_reader_group_e base) [(0, t0), (6, t6), (7, t7)] H []
theorem ref03_reader_group_j2_eq (base : Nat) (t0 t6 t7 : V) (H : Heap) : ref03_reader_group_j2 base t0 t6 t7 H =
 bnd (oNil t0) fun v29 =>
 bnd (oFieldPtr v29 1) fun v30 =>
 bnd (oLoad false 1 H v30) fun v31 =>
 bnd (oBin .add 6 v31 (.int .i64 1)) fun v32 =>
 bnd (oNil t0) fun v33 =>
 bnd (oFieldPtr v33 1) fun v34 =>
 beff (oStore base 1 H v34 v32) fun v35 h36 =>
 bnd (oLoad true 6 h36 t7) fun v37 =>
 beff (oStore base 6 h36 t6 v37) fun v38 h39 =>
 bnd (oLoad true 6 h39 t6) fun v40 =>
 rt false base v40 h39 := by kernel_rfl
def ref03_reader_group_j1 (base : Nat) (t0 t1 t2 t6 : V) (H : Heap) : Option (Out × Heap) :=
ref03_reader_group_C base (cAt [1, 1, 1] ref03_reader_group_c) (ref03_reader_group_e base) [(0, t0), (1, t1), (2, t2), (6, t6)] H []
theorem ref03_reader_group_j1_eq (base : Nat) (t0 t1 t2 t6 : V) (H : Heap) : ref03_reader_group_j1 base t0 t1 t2 t6 H =
 bcall (E n_ref03_reader_skip [t0] H) (fun v13 h14 =>
 bnd (oBin .add 6 t2 (.int .i64 1)) fun v15 =>
 bcall (E n_ref03_reader_alt [t0, v15] h14) (fun v16 h17 =>
 beff (oVar h17 (.agg [(.int .i64 0), (.str []), .nils, (.int .i64 0), (.int .i64 0), .nils])) fun v18 h19 =>
 beff (oStore base 6 h19 v18 v16) fun v20 h21 =>
 bcall (E n_ref03_reader_skip [t0] h21) (fun v22 h23 =>
 bcall (E n_ref03_reader_at [t0, (.int .i64 0)] h23) (fun v24 h25 =>
 bnd (oBin .neq 6 v24 t1) fun v26 =>
 cnd v26
 (bcall (E n_ref03_reader_fail [t0, (.int .i64 20)] h25) (fun v27 h28 =>
 ref03_reader_group_j2 base t0 t6 v18 h28)
 (fun v27 h28 => pn false base v27 h28))
 (ref03_reader_group_j2 base t0 t6 v18 h25))
 (fun v24 h25 => pn false base v24 h25))
 (fun v22 h23 => pn false base v22 h23))
 (fun v16 h17 => pn false base v16 h17))
 (fun v13 h14 => pn false base v13 h14) := by kernel_rfl
def ref03_reader_group (base : Nat) (t0 t1 t2 : V) (H : Heap) : Option (Out × Heap) := ref03_reader_group_C base ref03_reader_group_c (ref03_reader_group_e base) [(0, t0), (1, t1), (2, t2)] H []
theorem ref03_reader_group_eq (base : Nat) (t0 t1 t2 : V) (H : Heap) : ref03_reader_group base t0 t1 t2 H =
 beff (oVar H (.agg [(.int .i64 0), (.str []), .nils, (.int .i64 0), (.int .i64 0), .nils])) fun v0 h1 =>
 bnd (oNil t0) fun v2 =>
 bnd (oFieldPtr v2 1) fun v3 =>
 bnd (oLoad false 1 h1 v3) fun v4 =>
 bnd (oBin .add 6 v4 (.int .i64 1)) fun v5 =>
 bnd (oNil t0) fun v6 =>
 bnd (oFieldPtr v6 1) fun v7 =>
 beff (oStore base 1 h1 v7 v5) fun v8 h9 =>
 bnd (oBin .geq 6 t2 (.int .i64 50)) fun v10 =>
 cnd v10
 (bcall (E n_ref03_reader_fail [t0, (.int .i64 2)] h9) (fun v11 h12 =>
 ref03_reader_group_j1 base t0 t1 t2 v0 h12)
 (fun v11 h12 => pn false base v11 h12))
 (ref03_reader_group_j1 base t0 t1 t2 v0 h9) := by kernel_rfl
theorem ref03_reader_group_E (t0 t1 t2 : V) (H : Heap) : E n_ref03_reader_group [t0, t1, t2] H = ref03_reader_group H.length t0 t1 t2 H := (EV_at Tryd.func98 (by kernel_rfl) (by kernel_rfl) (by kernel_rfl)).trans (by kernel_rfl)

def ref03_reader_text_c : Code := bodyOf Tryd.f99
def ref03_reader_text_ks : Ks := [(4, [1, 4, 5, 6, 7]), (10, [4, 5, 6, 8]), (13, [4, 6])]
def ref03_reader_text_e (base : Nat) : KC (Out × Heap) := xEnd Tryd.prog D false base 54 Tryd.f99.results.toList
def ref03_reader_text_C (base : Nat) (c : Code) (k : KC (Out × Heap)) (t : Ts) (H : Heap) (d : Ds) : Option (Out × Heap) := xC Tryd.prog base false ref03_reader_text_ks E 54 c k t H d
def ref03_reader_text_l1 (base : Nat) (t1 t4 t5 t6 t7 : V) (H : Heap) : Option (Out × Heap) :=
iterL (fun t H d again => ref03_reader_text_C base (cAt [1, 1, 1, 0, 1, 0, 0] ref03_reader_text_c) (loopK ref03_reader_text_ks (cAt [1, 1, 1, 0, 1, 0, 0] ref03_reader_text_c) again ((blockK 0 ((seqK (fun _ t => ref03_reader_text_C base (cAt [1, 1, 1, 1] ref03_reader_text_c) (ref03_reader_text_e base) (trimA ref03_reader_text_ks (cAt [1, 1, 1, 1] ref03_reader_text_c) t)) (ref03_reader_text_e base)))))) t H d) [(1, t1), (4, t4), (5, t5), (6, t6), (7, t7)] H []
def ref03_reader_text_l2 (base : Nat) (t4 t5 t6 t8 : V) (H : Heap) : Option (Out × Heap) :=
iterL (fun t H d again => ref03_reader_text_C base (cAt [1, 1, 1, 1, 0, 1, 0, 1, 1, 0, 0] ref03_reader_text_c) (loopK ref03_reader_text_ks (cAt [1, 1, 1, 1, 0, 1, 0, 1, 1, 0, 0] ref03_reader_text_c) again ((blockK 2 ((seqK (fun _ t => ref03_reader_text_C base (cAt [1, 1, 1, 1, 1] ref03_reader_text_c) (ref03_reader_text_e base) (trimA ref03_reader_text_ks (cAt [1, 1, 1, 1, 1] ref03_reader_text_c) t)) (ref03_reader_text_e base)))))) t H d) [(4, t4), (5, t5), (6, t6), (8, t8)] H []
def ref03_reader_text_j3 (base : Nat) (t4 t6 : V) (H : Heap) : Option (Out × Heap) :=
ref03_reader_text_C base (cAt [1, 1, 1, 1, 1] ref03_reader_text_c) (ref03_reader_text_e base) [(4, t4), (6, t6)] H []
theorem ref03_reader_text_j3_eq (base : Nat) (t4 t6 : V) (H : Heap) : ref03_reader_text_j3 base t4 t6 H =
 bnd (oLoad true 6 H t6) fun v45 =>
 beff (oStore base 6 H t4 v45) fun v46 h47 =>
 bnd (oLoad true 6 h47 t4) fun v48 =>
 rt false base v48 h47 := by kernel_rfl
theorem ref03_reader_text_l2_eq (base : Nat) (t4 t5 t6 t8 : V) (H : Heap) : ref03_reader_text_l2 base t4 t5 t6 t8 H =
 bnd (oLenStr t5) fun v32 =>
 bnd (oBin .lss 6 t8 v32) fun v33 =>
 cnd v33
 (bnd (oFieldPtr t6 2) fun v34 =>
 bnd (oLoad false 1 H v34) fun v35 =>
 bnd (oIndexStr t5 t8) fun v36 =>
 bnd (oIntTo .i64 v36) fun v37 =>
 bnd (oLit 1 1 (.int .i64 0) [(0, v37)]) fun v38 =>
 beff (oAppend base 1 8 false v35 v38 H) fun v39 h40 =>
 bnd (oFieldPtr t6 2) fun v41 =>
 beff (oStore base 1 h40 v41 v39) fun v42 h43 =>
 bnd (oBin .add 6 t8 (.int .i64 1)) fun v44 =>
 ref03_reader_text_l2 base t4 t5 t6 v44 h43)
 (ref03_reader_text_j3 base t4 t6 H) := (loop_eq (cAt [1, 1, 1, 1, 0, 1, 0, 1, 1, 0, 0] ref03_reader_text_c) ((blockK 2 ((seqK (fun _ t => ref03_reader_text_C base (cAt [1, 1, 1, 1, 1] ref03_reader_text_c) (ref03_reader_text_e base) (trimA ref03_reader_text_ks (cAt [1, 1, 1, 1, 1] ref03_reader_text_c) t)) (ref03_reader_text_e base))))) _ H []).trans (by kernel_rfl)
theorem ref03_reader_text_l1_eq (base : Nat) (t1 t4 t5 t6 t7 : V) (H : Heap) : ref03_reader_text_l1 base t1 t4 t5 t6 t7 H =
 bnd (oLenStr t5) fun v9 =>
 bnd (oBin .lss 6 t7 v9) fun v10 =>
 bnd (gua v10 true (oMove t1) (some (.tup []))) fun v11 =>
 bnd (oPick v10 v11 (.bool false)) fun v12 =>
 cnd v12
 (bnd (oFieldPtr t6 1) fun v13 =>
 bnd (oLoad false 1 H v13) fun v14 =>
 bnd (oIndexStr t5 t7) fun v15 =>
 bcall (E n_ref03_lower [v15] H) (fun v16 h17 =>
 sch (sam (oLoad false 1 h17 v13) v14) (
 bnd (oLit 1 1 (.int .u8 0) [(0, v16)]) fun v18 =>
 bnd (oText h17 v18) fun v19 =>
 bnd (oBin .add 6 v14 v19) fun v20 =>
 bnd (oFieldPtr t6 1) fun v21 =>
 beff (oStore base 1 h17 v21 v20) fun v22 h23 =>
 bnd (oBin .add 6 t7 (.int .i64 1)) fun v24 =>
 ref03_reader_text_l1 base t1 t4 t5 t6 v24 h23))
 (fun v16 h17 => pn false base v16 h17))
 (bnd (oUn .not t1) fun v25 =>
 bnd (gua v25 true (oMove t5) (some (.tup []))) fun v26 =>
 bnd (gua v25 true (oBin .neq 6 v26 (.str [])) (some (.tup []))) fun v27 =>
 bnd (oPick v25 v27 (.bool false)) fun v28 =>
 cnd v28
 (bnd (oFieldPtr t6 0) fun v29 =>
 beff (oStore base 1 H v29 (.int .i64 6)) fun v30 h31 =>
 ref03_reader_text_l2 base t4 t5 t6 (.int .i64 0) h31)
 (ref03_reader_text_j3 base t4 t6 H)) := (loop_eq (cAt [1, 1, 1, 0, 1, 0, 0] ref03_reader_text_c) ((blockK 0 ((seqK (fun _ t => ref03_reader_text_C base (cAt [1, 1, 1, 1] ref03_reader_text_c) (ref03_reader_text_e base) (trimA ref03_reader_text_ks (cAt [1, 1, 1, 1] ref03_reader_text_c) t)) (ref03_reader_text_e base))))) _ H []).trans (by kernel_rfl)
def ref03_reader_text (base : Nat) (t0 t1 : V) (H : Heap) : Option (Out × Heap) := ref03_reader_text_C base ref03_reader_text_c (ref03_reader_text_e base) [(0, t0), (1, t1)] H []
theorem ref03_reader_text_eq (base : Nat) (t0 t1 : V) (H : Heap) : ref03_reader_text base t0 t1 H =
 beff (oVar H (.agg [(.int .i64 0), (.str []), .nils, (.int .i64 0), (.int .i64 0), .nils])) fun v0 h1 =>
 bcall (E n_ref03_reader_quoted [t0] h1) (fun v2 h3 =>
 bnd (oBuild [(.int .i64 0), (.str []), .nils, (.int .i64 0), (.int .i64 0), .nils] [(0, 1), (1, 1), (2, 1), (3, 1), (4, 1), (5, 1)] [(0, (.int .i64 5))]) fun v4 =>
 beff (oVar h3 (.agg [(.int .i64 0), (.str []), .nils, (.int .i64 0), (.int .i64 0), .nils])) fun v5 h6 =>
 beff (oStore base 6 h6 v5 v4) fun v7 h8 =>
 ref03_reader_text_l1 base t1 v0 v2 v5 (.int .i64 0) h8)
 (fun v2 h3 => pn false base v2 h3) := by kernel_rfl
theorem ref03_reader_text_E (t0 t1 : V) (H : Heap) : E n_ref03_reader_text [t0, t1] H = ref03_reader_text H.length t0 t1 H := (EV_at Tryd.func99 (by kernel_rfl) (by kernel_rfl) (by kernel_rfl)).trans (by kernel_rfl)
end
end Go.Proofs.YthcjjicplodhjaaDoor
end

