/- Fn6: a part of the proof that each law of this seat answers true at every input. No condition. -/
import Derived.Test.YthcjjicplodhjaaDoorHint
import Derived.KernelRfl
set_option linter.unusedVariables false
set_option linter.unusedSimpArgs false
set_option maxRecDepth 20000
section
/- Printed: what functions do. -/
namespace Go.Proofs.YthcjjicplodhjaaDoor
open Go Go.Ev
set_option linter.unusedVariables false
noncomputable section

def strings_Builder_WriteRune_c : Code := bodyOf Tryd.f95
def strings_Builder_WriteRune_ks : Ks := []
def strings_Builder_WriteRune_e (base : Nat) : KC (Out × Heap) := xEnd Tryd.prog D false base 30 Tryd.f95.results.toList
def strings_Builder_WriteRune_C (base : Nat) (c : Code) (k : KC (Out × Heap)) (t : Ts) (H : Heap) (d : Ds) : Option (Out × Heap) := xC Tryd.prog base false strings_Builder_WriteRune_ks E 30 c k t H d
def strings_Builder_WriteRune (base : Nat) (t0 t1 : V) (H : Heap) : Option (Out × Heap) := strings_Builder_WriteRune_C base strings_Builder_WriteRune_c (strings_Builder_WriteRune_e base) [(0, t0), (1, t1)] H []
theorem strings_Builder_WriteRune_eq (base : Nat) (t0 t1 : V) (H : Heap) : strings_Builder_WriteRune base t0 t1 H =
 bcall (E n_strings_Builder_copyCheck [t0] H) (fun v0 h1 =>
 bnd (oNil t0) fun v2 =>
 bnd (oFieldPtr v2 1) fun v3 =>
 bnd (oLoad false 1 h1 v3) fun v4 =>
 bnd (oLenSl v4) fun v5 =>
 bnd (oNil t0) fun v6 =>
 bnd (oFieldPtr v6 1) fun v7 =>
 bnd (oLoad false 1 h1 v7) fun v8 =>
 bcall (E n_unicode_utf8_AppendRune [v8, t1] h1) (fun v9 h10 =>
 bnd (oNil t0) fun v11 =>
 bnd (oFieldPtr v11 1) fun v12 =>
 beff (oStore base 1 h10 v12 v9) fun v13 h14 =>
 bnd (oNil t0) fun v15 =>
 bnd (oFieldPtr v15 1) fun v16 =>
 bnd (oLoad false 1 h14 v16) fun v17 =>
 bnd (oLenSl v17) fun v18 =>
 bnd (oBin .sub 6 v18 v5) fun v19 =>
 rt false base (.tup [v19, .niface]) h14)
 (fun v9 h10 => pn false base v9 h10))
 (fun v0 h1 => pn false base v0 h1) := by kernel_rfl
theorem strings_Builder_WriteRune_E (t0 t1 : V) (H : Heap) : E n_strings_Builder_WriteRune [t0, t1] H = strings_Builder_WriteRune H.length t0 t1 H := (EV_at Tryd.func95 (by kernel_rfl) (by kernel_rfl) (by kernel_rfl)).trans (by kernel_rfl)

def unicode_To_c : Code := bodyOf Tryd.f97
def unicode_To_ks : Ks := []
def unicode_To_e (base : Nat) : KC (Out × Heap) := xEnd Tryd.prog D false base 13 Tryd.f97.results.toList
def unicode_To_C (base : Nat) (c : Code) (k : KC (Out × Heap)) (t : Ts) (H : Heap) (d : Ds) : Option (Out × Heap) := xC Tryd.prog base false unicode_To_ks E 13 c k t H d
def unicode_To (base : Nat) (t0 t1 : V) (H : Heap) : Option (Out × Heap) := unicode_To_C base unicode_To_c (unicode_To_e base) [(0, t0), (1, t1)] H []
theorem unicode_To_eq (base : Nat) (t0 t1 : V) (H : Heap) : unicode_To base t0 t1 H =
 bnd (oLoad false 1 H .junk) fun v0 =>
 bcall (E n_unicode_to [t0, t1, v0] H) (fun v1 h2 =>
 bnd (oExtract v1 0) fun v3 =>
 bnd (oExtract v1 1) fun v4 =>
 rt false base v3 h2)
 (fun v1 h2 => pn false base v1 h2) := by kernel_rfl
theorem unicode_To_E (t0 t1 : V) (H : Heap) : E n_unicode_To [t0, t1] H = unicode_To H.length t0 t1 H := (EV_at Tryd.func97 (by kernel_rfl) (by kernel_rfl) (by kernel_rfl)).trans (by kernel_rfl)

def ref03_reader_group_c : Code := bodyOf Tryd.f98
def ref03_reader_group_ks : Ks := [(4, [0, 1, 2, 6]), (9, [0, 6, 7])]
def ref03_reader_group_e (base : Nat) : KC (Out × Heap) := xEnd Tryd.prog D false base 41 Tryd.f98.results.toList
def ref03_reader_group_C (base : Nat) (c : Code) (k : KC (Out × Heap)) (t : Ts) (H : Heap) (d : Ds) : Option (Out × Heap) := xC Tryd.prog base false ref03_reader_group_ks E 41 c k t H d
def ref03_reader_group_j2 (base : Nat) (t0 t6 t7 : V) (H : Heap) : Option (Out × Heap) :=
ref03_reader_group_C base (cAt [1, 1, 1, 1, 1, 1, 1] ref03_reader_group_c) (ref03_reader_group_e base) [(0, t0), (6, t6), (7, t7)] H []
theorem ref03_reader_group_j2_eq (base : Nat) (t0 t6 t7 : V) (H : Heap) : ref03_reader_group_j2 base t0 t6 t7 H =
 bnd (oNil t0) fun v29 =>
 bnd (oFieldPtr v29 1) fun v30 =>
 bnd (oLoad false 1 H v30) fun v31 =>
 bnd (oBin .add 6 v31 (.int .i64 1)) fun v32 =>
 bnd (oNil t0) fun v33 =>
 bnd (oFieldPtr v33 1) fun v34 =>
 beff (oStore base 1 H v34 v32) fun v35 h36 =>
 bnd (oLoad true 6 h36 t7) fun v37 =>
 beff (oStore base 6 h36 t6 v37) fun v38 h39 =>
 bnd (oLoad true 6 h39 t6) fun v40 =>
 rt false base v40 h39 := by kernel_rfl
def ref03_reader_group_j1 (base : Nat) (t0 t1 t2 t6 : V) (H : Heap) : Option (Out × Heap) :=
ref03_reader_group_C base (cAt [1, 1, 1] ref03_reader_group_c) (ref03_reader_group_e base) [(0, t0), (1, t1), (2, t2), (6, t6)] H []
theorem ref03_reader_group_j1_eq (base : Nat) (t0 t1 t2 t6 : V) (H : Heap) : ref03_reader_group_j1 base t0 t1 t2 t6 H =
 bcall (E n_ref03_reader_skip [t0] H) (fun v13 h14 =>
 bnd (oBin .add 6 t2 (.int .i64 1)) fun v15 =>
 bcall (E n_ref03_reader_alt [t0, v15] h14) (fun v16 h17 =>
 beff (oVar h17 (.agg [(.int .i64 0), (.str []), .nils, (.int .i64 0), (.int .i64 0), .nils])) fun v18 h19 =>
 beff (oStore base 6 h19 v18 v16) fun v20 h21 =>
 bcall (E n_ref03_reader_skip [t0] h21) (fun v22 h23 =>
 bcall (E n_ref03_reader_at [t0, (.int .i64 0)] h23) (fun v24 h25 =>
 bnd (oBin .neq 6 v24 t1) fun v26 =>
 cnd v26
 (bcall (E n_ref03_reader_fail [t0, (.int .i64 20)] h25) (fun v27 h28 =>
 ref03_reader_group_j2 base t0 t6 v18 h28)
 (fun v27 h28 => pn false base v27 h28))
 (ref03_reader_group_j2 base t0 t6 v18 h25))
 (fun v24 h25 => pn false base v24 h25))
 (fun v22 h23 => pn false base v22 h23))
 (fun v16 h17 => pn false base v16 h17))
 (fun v13 h14 => pn false base v13 h14) := by kernel_rfl
def ref03_reader_group (base : Nat) (t0 t1 t2 : V) (H : Heap) : Option (Out × Heap) := ref03_reader_group_C base ref03_reader_group_c (ref03_reader_group_e base) [(0, t0), (1, t1), (2, t2)] H []
theorem ref03_reader_group_eq (base : Nat) (t0 t1 t2 : V) (H : Heap) : ref03_reader_group base t0 t1 t2 H =
 beff (oVar H (.agg [(.int .i64 0), (.str []), .nils, (.int .i64 0), (.int .i64 0), .nils])) fun v0 h1 =>
 bnd (oNil t0) fun v2 =>
 bnd (oFieldPtr v2 1) fun v3 =>
 bnd (oLoad false 1 h1 v3) fun v4 =>
 bnd (oBin .add 6 v4 (.int .i64 1)) fun v5 =>
 bnd (oNil t0) fun v6 =>
 bnd (oFieldPtr v6 1) fun v7 =>
 beff (oStore base 1 h1 v7 v5) fun v8 h9 =>
 bnd (oBin .geq 6 t2 (.int .i64 50)) fun v10 =>
 cnd v10
 (bcall (E n_ref03_reader_fail [t0, (.int .i64 2)] h9) (fun v11 h12 =>
 ref03_reader_group_j1 base t0 t1 t2 v0 h12)
 (fun v11 h12 => pn false base v11 h12))
 (ref03_reader_group_j1 base t0 t1 t2 v0 h9) := by kernel_rfl
theorem ref03_reader_group_E (t0 t1 t2 : V) (H : Heap) : E n_ref03_reader_group [t0, t1, t2] H = ref03_reader_group H.length t0 t1 t2 H := (EV_at Tryd.func98 (by kernel_rfl) (by kernel_rfl) (by kernel_rfl)).trans (by kernel_rfl)

def ref03_reader_text_c : Code := bodyOf Tryd.f99
def ref03_reader_text_ks : Ks := [(4, [1, 4, 5, 6, 7]), (10, [4, 5, 6, 8]), (13, [4, 6])]
def ref03_reader_text_e (base : Nat) : KC (Out × Heap) := xEnd Tryd.prog D false base 54 Tryd.f99.results.toList
def ref03_reader_text_C (base : Nat) (c : Code) (k : KC (Out × Heap)) (t : Ts) (H : Heap) (d : Ds) : Option (Out × Heap) := xC Tryd.prog base false ref03_reader_text_ks E 54 c k t H d
def ref03_reader_text_l1 (base : Nat) (t1 t4 t5 t6 t7 : V) (H : Heap) : Option (Out × Heap) :=
iterL (fun t H d again => ref03_reader_text_C base (cAt [1, 1, 1, 0, 1, 0, 0] ref03_reader_text_c) (loopK ref03_reader_text_ks (cAt [1, 1, 1, 0, 1, 0, 0] ref03_reader_text_c) again ((blockK 0 ((seqK (fun _ t => ref03_reader_text_C base (cAt [1, 1, 1, 1] ref03_reader_text_c) (ref03_reader_text_e base) (trimA ref03_reader_text_ks (cAt [1, 1, 1, 1] ref03_reader_text_c) t)) (ref03_reader_text_e base)))))) t H d) [(1, t1), (4, t4), (5, t5), (6, t6), (7, t7)] H []
def ref03_reader_text_l2 (base : Nat) (t4 t5 t6 t8 : V) (H : Heap) : Option (Out × Heap) :=
iterL (fun t H d again => ref03_reader_text_C base (cAt [1, 1, 1, 1, 0, 1, 0, 1, 1, 0, 0] ref03_reader_text_c) (loopK ref03_reader_text_ks (cAt [1, 1, 1, 1, 0, 1, 0, 1, 1, 0, 0] ref03_reader_text_c) again ((blockK 2 ((seqK (fun _ t => ref03_reader_text_C base (cAt [1, 1, 1, 1, 1] ref03_reader_text_c) (ref03_reader_text_e base) (trimA ref03_reader_text_ks (cAt [1, 1, 1, 1, 1] ref03_reader_text_c) t)) (ref03_reader_text_e base)))))) t H d) [(4, t4), (5, t5), (6, t6), (8, t8)] H []
def ref03_reader_text_j3 (base : Nat) (t4 t6 : V) (H : Heap) : Option (Out × Heap) :=
ref03_reader_text_C base (cAt [1, 1, 1, 1, 1] ref03_reader_text_c) (ref03_reader_text_e base) [(4, t4), (6, t6)] H []
theorem ref03_reader_text_j3_eq (base : Nat) (t4 t6 : V) (H : Heap) : ref03_reader_text_j3 base t4 t6 H =
 bnd (oLoad true 6 H t6) fun v45 =>
 beff (oStore base 6 H t4 v45) fun v46 h47 =>
 bnd (oLoad true 6 h47 t4) fun v48 =>
 rt false base v48 h47 := by kernel_rfl
theorem ref03_reader_text_l2_eq (base : Nat) (t4 t5 t6 t8 : V) (H : Heap) : ref03_reader_text_l2 base t4 t5 t6 t8 H =
 bnd (oLenStr t5) fun v32 =>
 bnd (oBin .lss 6 t8 v32) fun v33 =>
 cnd v33
 (bnd (oFieldPtr t6 2) fun v34 =>
 bnd (oLoad false 1 H v34) fun v35 =>
 bnd (oIndexStr t5 t8) fun v36 =>
 bnd (oIntTo .i64 v36) fun v37 =>
 bnd (oLit 1 1 (.int .i64 0) [(0, v37)]) fun v38 =>
 beff (oAppend base 1 8 false v35 v38 H) fun v39 h40 =>
 bnd (oFieldPtr t6 2) fun v41 =>
 beff (oStore base 1 h40 v41 v39) fun v42 h43 =>
 bnd (oBin .add 6 t8 (.int .i64 1)) fun v44 =>
 ref03_reader_text_l2 base t4 t5 t6 v44 h43)
 (ref03_reader_text_j3 base t4 t6 H) := (loop_eq (cAt [1, 1, 1, 1, 0, 1, 0, 1, 1, 0, 0] ref03_reader_text_c) ((blockK 2 ((seqK (fun _ t => ref03_reader_text_C base (cAt [1, 1, 1, 1, 1] ref03_reader_text_c) (ref03_reader_text_e base) (trimA ref03_reader_text_ks (cAt [1, 1, 1, 1, 1] ref03_reader_text_c) t)) (ref03_reader_text_e base))))) _ H []).trans (by kernel_rfl)
theorem ref03_reader_text_l1_eq (base : Nat) (t1 t4 t5 t6 t7 : V) (H : Heap) : ref03_reader_text_l1 base t1 t4 t5 t6 t7 H =
 bnd (oLenStr t5) fun v9 =>
 bnd (oBin .lss 6 t7 v9) fun v10 =>
 bnd (gua v10 true (oMove t1) (some (.tup []))) fun v11 =>
 bnd (oPick v10 v11 (.bool false)) fun v12 =>
 cnd v12
 (bnd (oFieldPtr t6 1) fun v13 =>
 bnd (oLoad false 1 H v13) fun v14 =>
 bnd (oIndexStr t5 t7) fun v15 =>
 bcall (E n_ref03_lower [v15] H) (fun v16 h17 =>
 sch (sam (oLoad false 1 h17 v13) v14) (
 bnd (oLit 1 1 (.int .u8 0) [(0, v16)]) fun v18 =>
 bnd (oText h17 v18) fun v19 =>
 bnd (oBin .add 6 v14 v19) fun v20 =>
 bnd (oFieldPtr t6 1) fun v21 =>
 beff (oStore base 1 h17 v21 v20) fun v22 h23 =>
 bnd (oBin .add 6 t7 (.int .i64 1)) fun v24 =>
 ref03_reader_text_l1 base t1 t4 t5 t6 v24 h23))
 (fun v16 h17 => pn false base v16 h17))
 (bnd (oUn .not t1) fun v25 =>
 bnd (gua v25 true (oMove t5) (some (.tup []))) fun v26 =>
 bnd (gua v25 true (oBin .neq 6 v26 (.str [])) (some (.tup []))) fun v27 =>
 bnd (oPick v25 v27 (.bool false)) fun v28 =>
 cnd v28
 (bnd (oFieldPtr t6 0) fun v29 =>
 beff (oStore base 1 H v29 (.int .i64 6)) fun v30 h31 =>
 ref03_reader_text_l2 base t4 t5 t6 (.int .i64 0) h31)
 (ref03_reader_text_j3 base t4 t6 H)) := (loop_eq (cAt [1, 1, 1, 0, 1, 0, 0] ref03_reader_text_c) ((blockK 0 ((seqK (fun _ t => ref03_reader_text_C base (cAt [1, 1, 1, 1] ref03_reader_text_c) (ref03_reader_text_e base) (trimA ref03_reader_text_ks (cAt [1, 1, 1, 1] ref03_reader_text_c) t)) (ref03_reader_text_e base))))) _ H []).trans (by kernel_rfl)
def ref03_reader_text (base : Nat) (t0 t1 : V) (H : Heap) : Option (Out × Heap) := ref03_reader_text_C base ref03_reader_text_c (ref03_reader_text_e base) [(0, t0), (1, t1)] H []
theorem ref03_reader_text_eq (base : Nat) (t0 t1 : V) (H : Heap) : ref03_reader_text base t0 t1 H =
 beff (oVar H (.agg [(.int .i64 0), (.str []), .nils, (.int .i64 0), (.int .i64 0), .nils])) fun v0 h1 =>
 bcall (E n_ref03_reader_quoted [t0] h1) (fun v2 h3 =>
 bnd (oBuild [(.int .i64 0), (.str []), .nils, (.int .i64 0), (.int .i64 0), .nils] [(0, 1), (1, 1), (2, 1), (3, 1), (4, 1), (5, 1)] [(0, (.int .i64 5))]) fun v4 =>
 beff (oVar h3 (.agg [(.int .i64 0), (.str []), .nils, (.int .i64 0), (.int .i64 0), .nils])) fun v5 h6 =>
 beff (oStore base 6 h6 v5 v4) fun v7 h8 =>
 ref03_reader_text_l1 base t1 v0 v2 v5 (.int .i64 0) h8)
 (fun v2 h3 => pn false base v2 h3) := by kernel_rfl
theorem ref03_reader_text_E (t0 t1 : V) (H : Heap) : E n_ref03_reader_text [t0, t1] H = ref03_reader_text H.length t0 t1 H := (EV_at Tryd.func99 (by kernel_rfl) (by kernel_rfl) (by kernel_rfl)).trans (by kernel_rfl)

def ref03_reader_value_c : Code := bodyOf Tryd.f100
def ref03_reader_value_ks : Ks := [(5, [0, 2, 3]), (18, [0, 2, 4]), (27, [0, 2, 4, 5]), (32, [2, 5])]
def ref03_reader_value_e (base : Nat) : KC (Out × Heap) := xEnd Tryd.prog D false base 126 Tryd.f100.results.toList
def ref03_reader_value_C (base : Nat) (c : Code) (k : KC (Out × Heap)) (t : Ts) (H : Heap) (d : Ds) : Option (Out × Heap) := xC Tryd.prog base true ref03_reader_value_ks E 126 c k t H d
def ref03_reader_value_l3 (base : Nat) (t0 t2 t4 t5 : V) (H : Heap) : Option (Out × Heap) :=
iterL (fun t H d again => ref03_reader_value_C base (cAt [1, 1, 1, 1, 1, 1, 1, 1, 1, 1, 0, 0, 0] ref03_reader_value_c) (loopK ref03_reader_value_ks (cAt [1, 1, 1, 1, 1, 1, 1, 1, 1, 1, 0, 0, 0] ref03_reader_value_c) again ((blockK 1 ((seqK (fun _ t => ref03_reader_value_C base (cAt [1, 1, 1, 1, 1, 1, 1, 1, 1, 1, 1] ref03_reader_value_c) (ref03_reader_value_e base) (trimA ref03_reader_value_ks (cAt [1, 1, 1, 1, 1, 1, 1, 1, 1, 1, 1] ref03_reader_value_c) t)) (ref03_reader_value_e base)))))) t H d) [(0, t0), (2, t2), (4, t4), (5, t5)] H []
def ref03_reader_value_j4 (base : Nat) (t2 t5 : V) (H : Heap) : Option (Out × Heap) :=
ref03_reader_value_C base (cAt [1, 1, 1, 1, 1, 1, 1, 1, 1, 1, 1, 1] ref03_reader_value_c) (ref03_reader_value_e base) [(2, t2), (5, t5)] H []
theorem ref03_reader_value_j4_eq (base : Nat) (t2 t5 : V) (H : Heap) : ref03_reader_value_j4 base t2 t5 H =
 bnd (oLoad true 6 H t5) fun v112 =>
 beff (oStore base 6 H t2 v112) fun v113 h114 =>
 bnd (oLoad true 6 h114 t2) fun v115 =>
 rt false base v115 h114 := by kernel_rfl
theorem ref03_reader_value_l3_eq (base : Nat) (t0 t2 t4 t5 : V) (H : Heap) : ref03_reader_value_l3 base t0 t2 t4 t5 H =
 bnd (oFieldPtr t5 0) fun v65 =>
 bnd (oLoad false 1 H v65) fun v66 =>
 bnd (oBin .eql 6 v66 (.int .i64 6)) fun v67 =>
 bnd (gua v67 true (oMove t0) (some (.tup []))) fun v68 =>
 bcall (gua v67 true (E n_ref03_reader_at [v68, (.int .i64 0)] H) (some (.ret (.tup []), H))) (fun v69 h70 =>
 bnd (gua v67 true (oBin .eql 6 v69 (.int .i64 46)) (some (.tup []))) fun v71 =>
 bnd (oPick v67 v71 (.bool false)) fun v72 =>
 bnd (gua v72 true (oMove t0) (some (.tup []))) fun v73 =>
 bnd (gua v72 true (oNil v73) (some (.tup []))) fun v74 =>
 bnd (gua v72 true (oFieldPtr v74 2) (some (.tup []))) fun v75 =>
 bnd (gua v72 true (oLoad false 1 h70 v75) (some (.tup []))) fun v76 =>
 bnd (gua v72 true (oBin .eql 6 v76 (.int .i64 0)) (some (.tup []))) fun v77 =>
 bnd (oPick v72 v77 (.bool false)) fun v78 =>
 cnd v78
 (bnd (oNil t0) fun v79 =>
 bnd (oFieldPtr v79 1) fun v80 =>
 bnd (oLoad false 1 h70 v80) fun v81 =>
 bnd (oBin .add 6 v81 (.int .i64 1)) fun v82 =>
 bnd (oNil t0) fun v83 =>
 bnd (oFieldPtr v83 1) fun v84 =>
 beff (oStore base 1 h70 v84 v82) fun v85 h86 =>
 bnd (oFieldPtr t5 2) fun v87 =>
 bnd (oLoad false 1 h86 v87) fun v88 =>
 bcall (E n_ref03_reader_need [t0, t4] h86) (fun v89 h90 =>
 sch (sam (oLoad false 1 h90 v87) v88) (
 bnd (oLit 1 1 (.int .i64 0) [(0, v89)]) fun v91 =>
 beff (oAppend base 1 8 false v88 v91 h90) fun v92 h93 =>
 bnd (oFieldPtr t5 2) fun v94 =>
 beff (oStore base 1 h93 v94 v92) fun v95 h96 =>
 ref03_reader_value_l3 base t0 t2 t4 t5 h96))
 (fun v89 h90 => pn false base v89 h90))
 (bnd (oFieldPtr t5 0) fun v97 =>
 bnd (oLoad false 1 h70 v97) fun v98 =>
 bnd (oBin .eql 6 v98 (.int .i64 7)) fun v99 =>
 bnd (gua v99 true (oFieldPtr t5 2) (some (.tup []))) fun v100 =>
 bnd (gua v99 true (oLoad false 1 h70 v100) (some (.tup []))) fun v101 =>
 bnd (gua v99 true (oIndexPtr 1 v101 (.int .i64 0)) (some (.tup []))) fun v102 =>
 bnd (gua v99 true (oLoad false 1 h70 v102) (some (.tup []))) fun v103 =>
 bnd (gua v99 true (oFieldPtr t5 2) (some (.tup []))) fun v104 =>
 bnd (gua v99 true (oLoad false 1 h70 v104) (some (.tup []))) fun v105 =>
 bnd (gua v99 true (oIndexPtr 1 v105 (.int .i64 1)) (some (.tup []))) fun v106 =>
 bnd (gua v99 true (oLoad false 1 h70 v106) (some (.tup []))) fun v107 =>
 bnd (gua v99 true (oBin .gtr 6 v103 v107) (some (.tup []))) fun v108 =>
 bnd (oPick v99 v108 (.bool false)) fun v109 =>
 cnd v109
 (bcall (E n_ref03_reader_fail [t0, (.int .i64 20)] h70) (fun v110 h111 =>
 ref03_reader_value_j4 base t2 t5 h111)
 (fun v110 h111 => pn false base v110 h111))
 (ref03_reader_value_j4 base t2 t5 h70)))
 (fun v69 h70 => pn false base v69 h70) := (loop_eq (cAt [1, 1, 1, 1, 1, 1, 1, 1, 1, 1, 0, 0, 0] ref03_reader_value_c) ((blockK 1 ((seqK (fun _ t => ref03_reader_value_C base (cAt [1, 1, 1, 1, 1, 1, 1, 1, 1, 1, 1] ref03_reader_value_c) (ref03_reader_value_e base) (trimA ref03_reader_value_ks (cAt [1, 1, 1, 1, 1, 1, 1, 1, 1, 1, 1] ref03_reader_value_c) t)) (ref03_reader_value_e base))))) _ H []).trans (by kernel_rfl)
def ref03_reader_value_j2 (base : Nat) (t0 t2 t4 : V) (H : Heap) : Option (Out × Heap) :=
ref03_reader_value_C base (cAt [1, 1, 1, 1, 1, 1] ref03_reader_value_c) (ref03_reader_value_e base) [(0, t0), (2, t2), (4, t4)] H []
theorem ref03_reader_value_j2_eq (base : Nat) (t0 t2 t4 : V) (H : Heap) : ref03_reader_value_j2 base t0 t2 t4 H =
 bnd (oNil t0) fun v17 =>
 bnd (oFieldPtr v17 1) fun v18 =>
 bnd (oLoad false 1 H v18) fun v19 =>
 bnd (oBin .add 6 v19 (.int .i64 1)) fun v20 =>
 bnd (oNil t0) fun v21 =>
 bnd (oFieldPtr v21 1) fun v22 =>
 beff (oStore base 1 H v22 v20) fun v23 h24 =>
 bnd (oBin .eql 6 t4 (.int .i64 0)) fun v25 =>
 cnd v25
 (bcall (E n_ref03_reader_fail [t0, (.int .i64 20)] h24) (fun v26 h27 =>
 bnd (oBuild [(.int .i64 0), (.str []), .nils, (.int .i64 0), (.int .i64 0), .nils] [(0, 1), (1, 1), (2, 1), (3, 1), (4, 1), (5, 1)] []) fun v28 =>
 beff (oStore base 6 h27 t2 v28) fun v29 h30 =>
 bnd (oLoad true 6 h30 t2) fun v31 =>
 rt false base v31 h30)
 (fun v26 h27 => pn false base v26 h27))
 (bcall (E n_ref03_reader_need [t0, t4] h24) (fun v32 h33 =>
 beff (oRow 1 1 false [(.int .i64 0)] h33 [(0, v32)]) fun v34 h35 =>
 bnd (oBuild [(.int .i64 0), (.str []), .nils, (.int .i64 0), (.int .i64 0), .nils] [(0, 1), (1, 1), (2, 1), (3, 1), (4, 1), (5, 1)] [(0, (.int .i64 6)), (2, v34)]) fun v36 =>
 beff (oVar h35 (.agg [(.int .i64 0), (.str []), .nils, (.int .i64 0), (.int .i64 0), .nils])) fun v37 h38 =>
 beff (oStore base 6 h38 v37 v36) fun v39 h40 =>
 bcall (E n_ref03_reader_at [t0, (.int .i64 0)] h40) (fun v41 h42 =>
 bnd (oBin .eql 6 v41 (.int .i64 45)) fun v43 =>
 cnd v43
 (bnd (oFieldPtr v37 0) fun v44 =>
 beff (oStore base 1 h42 v44 (.int .i64 7)) fun v45 h46 =>
 bnd (oNil t0) fun v47 =>
 bnd (oFieldPtr v47 1) fun v48 =>
 bnd (oLoad false 1 h46 v48) fun v49 =>
 bnd (oBin .add 6 v49 (.int .i64 1)) fun v50 =>
 bnd (oNil t0) fun v51 =>
 bnd (oFieldPtr v51 1) fun v52 =>
 beff (oStore base 1 h46 v52 v50) fun v53 h54 =>
 bnd (oFieldPtr v37 2) fun v55 =>
 bnd (oLoad false 1 h54 v55) fun v56 =>
 bcall (E n_ref03_reader_need [t0, t4] h54) (fun v57 h58 =>
 sch (sam (oLoad false 1 h58 v55) v56) (
 bnd (oLit 1 1 (.int .i64 0) [(0, v57)]) fun v59 =>
 beff (oAppend base 1 8 false v56 v59 h58) fun v60 h61 =>
 bnd (oFieldPtr v37 2) fun v62 =>
 beff (oStore base 1 h61 v62 v60) fun v63 h64 =>
 ref03_reader_value_l3 base t0 t2 t4 v37 h64))
 (fun v57 h58 => pn false base v57 h58))
 (ref03_reader_value_l3 base t0 t2 t4 v37 h42))
 (fun v41 h42 => pn false base v41 h42))
 (fun v32 h33 => pn false base v32 h33)) := by kernel_rfl
def ref03_reader_value_j1 (base : Nat) (t0 t2 t3 : V) (H : Heap) : Option (Out × Heap) :=
ref03_reader_value_C base (cAt [1, 1, 1, 1] ref03_reader_value_c) (ref03_reader_value_e base) [(0, t0), (2, t2), (3, t3)] H []
theorem ref03_reader_value_j1_eq (base : Nat) (t0 t2 t3 : V) (H : Heap) : ref03_reader_value_j1 base t0 t2 t3 H =
 bnd (oBin .eql 6 t3 (.int .i64 98)) fun v16 =>
 cnd v16
 (ref03_reader_value_j2 base t0 t2 (.int .i64 2) H)
 (bnd (oBin .eql 6 t3 (.int .i64 100)) fun v116 =>
 cnd v116
 (ref03_reader_value_j2 base t0 t2 (.int .i64 10) H)
 (bnd (oBin .eql 6 t3 (.int .i64 120)) fun v117 =>
 cnd v117
 (ref03_reader_value_j2 base t0 t2 (.int .i64 16) H)
 (bnd (oBin .eql 6 t3 (.int .i64 105)) fun v118 =>
 cnd v118
 (cnd v118
 (bcall (E n_ref03_reader_at [t0, (.int .i64 1)] H) (fun v119 h120 =>
 bnd (oBin .eql 6 v119 (.int .i64 34)) fun v121 =>
 cnd v121
 (bnd (oNil t0) fun v122 =>
 bnd (oFieldPtr v122 1) fun v123 =>
 bnd (oLoad false 1 h120 v123) fun v124 =>
 bnd (oBin .add 6 v124 (.int .i64 1)) fun v125 =>
 bnd (oNil t0) fun v126 =>
 bnd (oFieldPtr v126 1) fun v127 =>
 beff (oStore base 1 h120 v127 v125) fun v128 h129 =>
 bnd (oBin .eql 6 t3 (.int .i64 105)) fun v130 =>
 bcall (E n_ref03_reader_text [t0, v130] h129) (fun v131 h132 =>
 beff (oStore base 6 h132 t2 v131) fun v133 h134 =>
 bnd (oLoad true 6 h134 t2) fun v135 =>
 rt false base v135 h134)
 (fun v131 h132 => pn false base v131 h132))
 (ref03_reader_value_j2 base t0 t2 (.int .i64 0) h120))
 (fun v119 h120 => pn false base v119 h120))
 (ref03_reader_value_j2 base t0 t2 (.int .i64 0) H))
 (bnd (oBin .eql 6 t3 (.int .i64 115)) fun v136 =>
 cnd v136
 (bcall (E n_ref03_reader_at [t0, (.int .i64 1)] H) (fun v137 h138 =>
 bnd (oBin .eql 6 v137 (.int .i64 34)) fun v139 =>
 cnd v139
 (bnd (oNil t0) fun v140 =>
 bnd (oFieldPtr v140 1) fun v141 =>
 bnd (oLoad false 1 h138 v141) fun v142 =>
 bnd (oBin .add 6 v142 (.int .i64 1)) fun v143 =>
 bnd (oNil t0) fun v144 =>
 bnd (oFieldPtr v144 1) fun v145 =>
 beff (oStore base 1 h138 v145 v143) fun v146 h147 =>
 bnd (oBin .eql 6 t3 (.int .i64 105)) fun v148 =>
 bcall (E n_ref03_reader_text [t0, v148] h147) (fun v149 h150 =>
 beff (oStore base 6 h150 t2 v149) fun v151 h152 =>
 bnd (oLoad true 6 h152 t2) fun v153 =>
 rt false base v153 h152)
 (fun v149 h150 => pn false base v149 h150))
 (ref03_reader_value_j2 base t0 t2 (.int .i64 0) h138))
 (fun v137 h138 => pn false base v137 h138))
 (ref03_reader_value_j2 base t0 t2 (.int .i64 0) H))))) := by kernel_rfl
def ref03_reader_value (base : Nat) (t0 : V) (H : Heap) : Option (Out × Heap) := ref03_reader_value_C base ref03_reader_value_c (ref03_reader_value_e base) [(0, t0)] H []
theorem ref03_reader_value_eq (base : Nat) (t0 : V) (H : Heap) : ref03_reader_value base t0 H =
 beff (oVar H (.agg [(.int .i64 0), (.str []), .nils, (.int .i64 0), (.int .i64 0), .nils])) fun v0 h1 =>
 bnd (oNil t0) fun v2 =>
 bnd (oFieldPtr v2 1) fun v3 =>
 bnd (oLoad false 1 h1 v3) fun v4 =>
 bnd (oBin .add 6 v4 (.int .i64 1)) fun v5 =>
 bnd (oNil t0) fun v6 =>
 bnd (oFieldPtr v6 1) fun v7 =>
 beff (oStore base 1 h1 v7 v5) fun v8 h9 =>
 bcall (E n_ref03_reader_at [t0, (.int .i64 0)] h9) (fun v10 h11 =>
 bnd (oBin .or 6 v10 (.int .i64 32)) fun v12 =>
 bcall (E n_ref03_reader_at [t0, (.int .i64 0)] h11) (fun v13 h14 =>
 bnd (oBin .lss 6 v13 (.int .i64 0)) fun v15 =>
 cnd v15
 (ref03_reader_value_j1 base t0 v0 (.int .i64 0) h14)
 (ref03_reader_value_j1 base t0 v0 v12 h14))
 (fun v13 h14 => pn false base v13 h14))
 (fun v10 h11 => pn false base v10 h11) := by kernel_rfl
theorem ref03_reader_value_E (t0 : V) (H : Heap) : E n_ref03_reader_value [t0] H = ref03_reader_value H.length t0 H := (EV_at Tryd.func100 (by kernel_rfl) (by kernel_rfl) (by kernel_rfl)).trans (by kernel_rfl)

def internal_strconv_log10Pow2_c : Code := bodyOf Tryd.f101
def internal_strconv_log10Pow2_ks : Ks := []
def internal_strconv_log10Pow2_e (base : Nat) : KC (Out × Heap) := xEnd Tryd.prog D false base 6 Tryd.f101.results.toList
def internal_strconv_log10Pow2_C (base : Nat) (c : Code) (k : KC (Out × Heap)) (t : Ts) (H : Heap) (d : Ds) : Option (Out × Heap) := xC Tryd.prog base false internal_strconv_log10Pow2_ks E 6 c k t H d
def internal_strconv_log10Pow2 (base : Nat) (t0 : V) (H : Heap) : Option (Out × Heap) := internal_strconv_log10Pow2_C base internal_strconv_log10Pow2_c (internal_strconv_log10Pow2_e base) [(0, t0)] H []
theorem internal_strconv_log10Pow2_eq (base : Nat) (t0 : V) (H : Heap) : internal_strconv_log10Pow2 base t0 H =
 bnd (oBin .mul 6 t0 (.int .i64 78913)) fun v0 =>
 bnd (oBin .shr 6 v0 (.int .u64 18)) fun v1 =>
 rt false base v1 H := by kernel_rfl
theorem internal_strconv_log10Pow2_E (t0 : V) (H : Heap) : E n_internal_strconv_log10Pow2 [t0] H = internal_strconv_log10Pow2 H.length t0 H := (EV_at Tryd.func101 (by kernel_rfl) (by kernel_rfl) (by kernel_rfl)).trans (by kernel_rfl)

def internal_strconv_bool2_int_c : Code := bodyOf Tryd.f103
def internal_strconv_bool2_int_ks : Ks := []
def internal_strconv_bool2_int_e (base : Nat) : KC (Out × Heap) := xEnd Tryd.prog D false base 4 Tryd.f103.results.toList
def internal_strconv_bool2_int_C (base : Nat) (c : Code) (k : KC (Out × Heap)) (t : Ts) (H : Heap) (d : Ds) : Option (Out × Heap) := xC Tryd.prog base false internal_strconv_bool2_int_ks E 4 c k t H d
def internal_strconv_bool2_int (base : Nat) (t0 : V) (H : Heap) : Option (Out × Heap) := internal_strconv_bool2_int_C base internal_strconv_bool2_int_c (internal_strconv_bool2_int_e base) [(0, t0)] H []
theorem internal_strconv_bool2_int_eq (base : Nat) (t0 : V) (H : Heap) : internal_strconv_bool2_int base t0 H =
 cnd t0
 (rt false base (.int .i64 1) H)
 (rt false base (.int .i64 0) H) := by kernel_rfl
theorem internal_strconv_bool2_int_E (t0 : V) (H : Heap) : E n_internal_strconv_bool2_int [t0] H = internal_strconv_bool2_int H.length t0 H := (EV_at Tryd.func103 (by kernel_rfl) (by kernel_rfl) (by kernel_rfl)).trans (by kernel_rfl)

def internal_strconv_isPowerOfTwo_c : Code := bodyOf Tryd.f104
def internal_strconv_isPowerOfTwo_ks : Ks := []
def internal_strconv_isPowerOfTwo_e (base : Nat) : KC (Out × Heap) := xEnd Tryd.prog D false base 8 Tryd.f104.results.toList
def internal_strconv_isPowerOfTwo_C (base : Nat) (c : Code) (k : KC (Out × Heap)) (t : Ts) (H : Heap) (d : Ds) : Option (Out × Heap) := xC Tryd.prog base false internal_strconv_isPowerOfTwo_ks E 8 c k t H d
def internal_strconv_isPowerOfTwo (base : Nat) (t0 : V) (H : Heap) : Option (Out × Heap) := internal_strconv_isPowerOfTwo_C base internal_strconv_isPowerOfTwo_c (internal_strconv_isPowerOfTwo_e base) [(0, t0)] H []
theorem internal_strconv_isPowerOfTwo_eq (base : Nat) (t0 : V) (H : Heap) : internal_strconv_isPowerOfTwo base t0 H =
 bnd (oBin .sub 6 t0 (.int .i64 1)) fun v0 =>
 bnd (oBin .and 6 t0 v0) fun v1 =>
 bnd (oBin .eql 6 v1 (.int .i64 0)) fun v2 =>
 rt false base v2 H := by kernel_rfl
theorem internal_strconv_isPowerOfTwo_E (t0 : V) (H : Heap) : E n_internal_strconv_isPowerOfTwo [t0] H = internal_strconv_isPowerOfTwo H.length t0 H := (EV_at Tryd.func104 (by kernel_rfl) (by kernel_rfl) (by kernel_rfl)).trans (by kernel_rfl)

def math_bits_TrailingZeros_c : Code := bodyOf Tryd.f105
def math_bits_TrailingZeros_ks : Ks := []
def math_bits_TrailingZeros_e (base : Nat) : KC (Out × Heap) := xEnd Tryd.prog D false base 8 Tryd.f105.results.toList
def math_bits_TrailingZeros_C (base : Nat) (c : Code) (k : KC (Out × Heap)) (t : Ts) (H : Heap) (d : Ds) : Option (Out × Heap) := xC Tryd.prog base false math_bits_TrailingZeros_ks E 8 c k t H d
def math_bits_TrailingZeros (base : Nat) (t0 : V) (H : Heap) : Option (Out × Heap) := math_bits_TrailingZeros_C base math_bits_TrailingZeros_c (math_bits_TrailingZeros_e base) [(0, t0)] H []
theorem math_bits_TrailingZeros_eq (base : Nat) (t0 : V) (H : Heap) : math_bits_TrailingZeros base t0 H =
 cnd (.bool false)
 (bnd (oIntTo .u32 t0) fun v0 =>
 bcall (E n_math_bits_TrailingZeros32 [v0] H) (fun v1 h2 =>
 rt false base v1 h2)
 (fun v1 h2 => pn false base v1 h2))
 (bcall (E n_math_bits_TrailingZeros64 [t0] H) (fun v3 h4 =>
 rt false base v3 h4)
 (fun v3 h4 => pn false base v3 h4)) := by kernel_rfl
theorem math_bits_TrailingZeros_E (t0 : V) (H : Heap) : E n_math_bits_TrailingZeros [t0] H = math_bits_TrailingZeros H.length t0 H := (EV_at Tryd.func105 (by kernel_rfl) (by kernel_rfl) (by kernel_rfl)).trans (by kernel_rfl)

def unicode_utf8_decodeRuneInStringSlow_c : Code := bodyOf Tryd.f106
def unicode_utf8_decodeRuneInStringSlow_ks : Ks := []
def unicode_utf8_decodeRuneInStringSlow_e (base : Nat) : KC (Out × Heap) := xEnd Tryd.prog D false base 117 Tryd.f106.results.toList
def unicode_utf8_decodeRuneInStringSlow_C (base : Nat) (c : Code) (k : KC (Out × Heap)) (t : Ts) (H : Heap) (d : Ds) : Option (Out × Heap) := xC Tryd.prog base false unicode_utf8_decodeRuneInStringSlow_ks E 117 c k t H d
def unicode_utf8_decodeRuneInStringSlow (base : Nat) (t0 : V) (H : Heap) : Option (Out × Heap) := unicode_utf8_decodeRuneInStringSlow_C base unicode_utf8_decodeRuneInStringSlow_c (unicode_utf8_decodeRuneInStringSlow_e base) [(0, t0)] H []
theorem unicode_utf8_decodeRuneInStringSlow_eq (base : Nat) (t0 : V) (H : Heap) : unicode_utf8_decodeRuneInStringSlow base t0 H =
 bnd (oLenStr t0) fun v0 =>
 bnd (oBin .lss 6 v0 (.int .i64 1)) fun v1 =>
 cnd v1
 (rt false base (.tup [(.int .i32 65533), (.int .i64 0)]) H)
 (bnd (oIndexStr t0 (.int .i64 0)) fun v2 =>
 bnd (oIndexPtrA 256 1 .junk v2) fun v3 =>
 bnd (oLoad false 1 H v3) fun v4 =>
 bnd (oBin .geq 6 v4 (.int .u8 240)) fun v5 =>
 cnd v5
 (bnd (oIntTo .i32 v4) fun v6 =>
 bnd (oBin .shl 6 v6 (.int .u64 31)) fun v7 =>
 bnd (oBin .shr 6 v7 (.int .u64 31)) fun v8 =>
 bnd (oIndexStr t0 (.int .i64 0)) fun v9 =>
 bnd (oIntTo .i32 v9) fun v10 =>
 bnd (oBin .andNot 6 v10 v8) fun v11 =>
 bnd (oBin .and 6 (.int .i32 65533) v8) fun v12 =>
 bnd (oBin .or 6 v11 v12) fun v13 =>
 rt false base (.tup [v13, (.int .i64 1)]) H)
 (bnd (oBin .and 6 v4 (.int .u8 7)) fun v14 =>
 bnd (oIntTo .i64 v14) fun v15 =>
 bnd (oBin .shr 6 v4 (.int .u64 4)) fun v16 =>
 bnd (oIndexPtrA 16 2 .junk v16) fun v17 =>
 bnd (oLoad true 2 H v17) fun v18 =>
 beff (oVar H (.agg [(.int .u8 0), (.int .u8 0)])) fun v19 h20 =>
 beff (oStore base 2 h20 v19 v18) fun v21 h22 =>
 bnd (oBin .lss 6 v0 v15) fun v23 =>
 cnd v23
 (rt false base (.tup [(.int .i32 65533), (.int .i64 1)]) h22)
 (bnd (oIndexStr t0 (.int .i64 1)) fun v24 =>
 bnd (oFieldPtr v19 0) fun v25 =>
 bnd (oLoad false 1 h22 v25) fun v26 =>
 bnd (oBin .lss 6 v24 v26) fun v27 =>
 bnd (gua v27 false (oFieldPtr v19 1) (some (.tup []))) fun v28 =>
 bnd (gua v27 false (oLoad false 1 h22 v28) (some (.tup []))) fun v29 =>
 bnd (gua v27 false (oMove v24) (some (.tup []))) fun v30 =>
 bnd (gua v27 false (oBin .lss 6 v29 v30) (some (.tup []))) fun v31 =>
 bnd (oPick v27 (.bool true) v31) fun v32 =>
 cnd v32
 (rt false base (.tup [(.int .i32 65533), (.int .i64 1)]) h22)
 (bnd (oBin .leq 6 v15 (.int .i64 2)) fun v33 =>
 cnd v33
 (bnd (oBin .and 6 v2 (.int .u8 31)) fun v34 =>
 bnd (oIntTo .i32 v34) fun v35 =>
 bnd (oBin .shl 6 v35 (.int .u64 6)) fun v36 =>
 bnd (oBin .and 6 v24 (.int .u8 63)) fun v37 =>
 bnd (oIntTo .i32 v37) fun v38 =>
 bnd (oBin .or 6 v36 v38) fun v39 =>
 rt false base (.tup [v39, (.int .i64 2)]) h22)
 (bnd (oIndexStr t0 (.int .i64 2)) fun v40 =>
 bnd (oBin .lss 6 v40 (.int .u8 128)) fun v41 =>
 bnd (gua v41 false (oMove v40) (some (.tup []))) fun v42 =>
 bnd (gua v41 false (oBin .lss 6 (.int .u8 191) v42) (some (.tup []))) fun v43 =>
 bnd (oPick v41 (.bool true) v43) fun v44 =>
 cnd v44
 (rt false base (.tup [(.int .i32 65533), (.int .i64 1)]) h22)
 (bnd (oBin .leq 6 v15 (.int .i64 3)) fun v45 =>
 cnd v45
 (bnd (oBin .and 6 v2 (.int .u8 15)) fun v46 =>
 bnd (oIntTo .i32 v46) fun v47 =>
 bnd (oBin .shl 6 v47 (.int .u64 12)) fun v48 =>
 bnd (oBin .and 6 v24 (.int .u8 63)) fun v49 =>
 bnd (oIntTo .i32 v49) fun v50 =>
 bnd (oBin .shl 6 v50 (.int .u64 6)) fun v51 =>
 bnd (oBin .or 6 v48 v51) fun v52 =>
 bnd (oBin .and 6 v40 (.int .u8 63)) fun v53 =>
 bnd (oIntTo .i32 v53) fun v54 =>
 bnd (oBin .or 6 v52 v54) fun v55 =>
 rt false base (.tup [v55, (.int .i64 3)]) h22)
 (bnd (oIndexStr t0 (.int .i64 3)) fun v56 =>
 bnd (oBin .lss 6 v56 (.int .u8 128)) fun v57 =>
 bnd (gua v57 false (oMove v56) (some (.tup []))) fun v58 =>
 bnd (gua v57 false (oBin .lss 6 (.int .u8 191) v58) (some (.tup []))) fun v59 =>
 bnd (oPick v57 (.bool true) v59) fun v60 =>
 cnd v60
 (rt false base (.tup [(.int .i32 65533), (.int .i64 1)]) h22)
 (bnd (oBin .and 6 v2 (.int .u8 7)) fun v61 =>
 bnd (oIntTo .i32 v61) fun v62 =>
 bnd (oBin .shl 6 v62 (.int .u64 18)) fun v63 =>
 bnd (oBin .and 6 v24 (.int .u8 63)) fun v64 =>
 bnd (oIntTo .i32 v64) fun v65 =>
 bnd (oBin .shl 6 v65 (.int .u64 12)) fun v66 =>
 bnd (oBin .or 6 v63 v66) fun v67 =>
 bnd (oBin .and 6 v40 (.int .u8 63)) fun v68 =>
 bnd (oIntTo .i32 v68) fun v69 =>
 bnd (oBin .shl 6 v69 (.int .u64 6)) fun v70 =>
 bnd (oBin .or 6 v67 v70) fun v71 =>
 bnd (oBin .and 6 v56 (.int .u8 63)) fun v72 =>
 bnd (oIntTo .i32 v72) fun v73 =>
 bnd (oBin .or 6 v71 v73) fun v74 =>
 rt false base (.tup [v74, (.int .i64 4)]) h22)))))))) := by kernel_rfl
theorem unicode_utf8_decodeRuneInStringSlow_E (t0 : V) (H : Heap) : E n_unicode_utf8_decodeRuneInStringSlow [t0] H = unicode_utf8_decodeRuneInStringSlow H.length t0 H := (EV_at Tryd.func106 (by kernel_rfl) (by kernel_rfl) (by kernel_rfl)).trans (by kernel_rfl)

def unicode_utf8_AppendRune_c : Code := bodyOf Tryd.f107
def unicode_utf8_AppendRune_ks : Ks := []
def unicode_utf8_AppendRune_e (base : Nat) : KC (Out × Heap) := xEnd Tryd.prog D false base 16 Tryd.f107.results.toList
def unicode_utf8_AppendRune_C (base : Nat) (c : Code) (k : KC (Out × Heap)) (t : Ts) (H : Heap) (d : Ds) : Option (Out × Heap) := xC Tryd.prog base false unicode_utf8_AppendRune_ks E 16 c k t H d
def unicode_utf8_AppendRune (base : Nat) (t0 t1 : V) (H : Heap) : Option (Out × Heap) := unicode_utf8_AppendRune_C base unicode_utf8_AppendRune_c (unicode_utf8_AppendRune_e base) [(0, t0), (1, t1)] H []
theorem unicode_utf8_AppendRune_eq (base : Nat) (t0 t1 : V) (H : Heap) : unicode_utf8_AppendRune base t0 t1 H =
 bnd (oIntTo .u32 t1) fun v0 =>
 bnd (oBin .leq 6 v0 (.int .u32 127)) fun v1 =>
 cnd v1
 (bnd (oIntTo .u8 t1) fun v2 =>
 bnd (oLit 1 1 (.int .u8 0) [(0, v2)]) fun v3 =>
 beff (oAppend base 1 1 false t0 v3 H) fun v4 h5 =>
 rt false base v4 h5)
 (bcall (E n_unicode_utf8_appendRuneNonASCII [t0, t1] H) (fun v6 h7 =>
 rt false base v6 h7)
 (fun v6 h7 => pn false base v6 h7)) := by kernel_rfl
theorem unicode_utf8_AppendRune_E (t0 t1 : V) (H : Heap) : E n_unicode_utf8_AppendRune [t0, t1] H = unicode_utf8_AppendRune H.length t0 t1 H := (EV_at Tryd.func107 (by kernel_rfl) (by kernel_rfl) (by kernel_rfl)).trans (by kernel_rfl)

def unicode_to_c : Code := bodyOf Tryd.f108
def unicode_to_ks : Ks := []
def unicode_to_e (base : Nat) : KC (Out × Heap) := xEnd Tryd.prog D false base 25 Tryd.f108.results.toList
def unicode_to_C (base : Nat) (c : Code) (k : KC (Out × Heap)) (t : Ts) (H : Heap) (d : Ds) : Option (Out × Heap) := xC Tryd.prog base false unicode_to_ks E 25 c k t H d
def unicode_to (base : Nat) (t0 t1 t2 : V) (H : Heap) : Option (Out × Heap) := unicode_to_C base unicode_to_c (unicode_to_e base) [(0, t0), (1, t1), (2, t2)] H []
theorem unicode_to_eq (base : Nat) (t0 t1 t2 : V) (H : Heap) : unicode_to base t0 t1 t2 H =
 bnd (oBin .lss 6 t0 (.int .i64 0)) fun v0 =>
 bnd (gua v0 false (oMove t0) (some (.tup []))) fun v1 =>
 bnd (gua v0 false (oBin .leq 6 (.int .i64 3) v1) (some (.tup []))) fun v2 =>
 bnd (oPick v0 (.bool true) v2) fun v3 =>
 cnd v3
 (rt false base (.tup [(.int .i32 65533), (.bool false)]) H)
 (bcall (E n_unicode_lookupCaseRange [t1, t2] H) (fun v4 h5 =>
 bnd (oBin .neq 2 v4 .nilptr) fun v6 =>
 cnd v6
 (bcall (E n_unicode_convertCase [t0, t1, v4] h5) (fun v7 h8 =>
 rt false base (.tup [v7, (.bool true)]) h8)
 (fun v7 h8 => pn false base v7 h8))
 (rt false base (.tup [t1, (.bool false)]) h5))
 (fun v4 h5 => pn false base v4 h5)) := by kernel_rfl
theorem unicode_to_E (t0 t1 t2 : V) (H : Heap) : E n_unicode_to [t0, t1, t2] H = unicode_to H.length t0 t1 t2 H := (EV_at Tryd.func108 (by kernel_rfl) (by kernel_rfl) (by kernel_rfl)).trans (by kernel_rfl)

def ref03_reader_quoted_c : Code := bodyOf Tryd.f109
def ref03_reader_quoted_ks : Ks := [(3, [0, 3]), (8, [0, 3])]
def ref03_reader_quoted_e (base : Nat) : KC (Out × Heap) := xEnd Tryd.prog D false base 60 Tryd.f109.results.toList
def ref03_reader_quoted_C (base : Nat) (c : Code) (k : KC (Out × Heap)) (t : Ts) (H : Heap) (d : Ds) : Option (Out × Heap) := xC Tryd.prog base false ref03_reader_quoted_ks E 60 c k t H d
def ref03_reader_quoted_l1 (base : Nat) (t0 t3 : V) (H : Heap) : Option (Out × Heap) :=
iterL (fun t H d again => ref03_reader_quoted_C base (cAt [1, 1, 1, 0, 0, 0] ref03_reader_quoted_c) (loopK ref03_reader_quoted_ks (cAt [1, 1, 1, 0, 0, 0] ref03_reader_quoted_c) again ((blockK 0 ((seqK (fun _ t => ref03_reader_quoted_C base (cAt [1, 1, 1, 1] ref03_reader_quoted_c) (ref03_reader_quoted_e base) (trimA ref03_reader_quoted_ks (cAt [1, 1, 1, 1] ref03_reader_quoted_c) t)) (ref03_reader_quoted_e base)))))) t H d) [(0, t0), (3, t3)] H []
def ref03_reader_quoted_j2 (base : Nat) (t0 t3 : V) (H : Heap) : Option (Out × Heap) :=
ref03_reader_quoted_C base (cAt [1, 1, 1, 1, 1] ref03_reader_quoted_c) (ref03_reader_quoted_e base) [(0, t0), (3, t3)] H []
theorem ref03_reader_quoted_j2_eq (base : Nat) (t0 t3 : V) (H : Heap) : ref03_reader_quoted_j2 base t0 t3 H =
 bnd (oNil t0) fun v46 =>
 bnd (oFieldPtr v46 1) fun v47 =>
 bnd (oLoad false 1 H v47) fun v48 =>
 bnd (oBin .add 6 v48 (.int .i64 1)) fun v49 =>
 bnd (oNil t0) fun v50 =>
 bnd (oFieldPtr v50 1) fun v51 =>
 beff (oStore base 1 H v51 v49) fun v52 h53 =>
 rt false base t3 h53 := by kernel_rfl
theorem ref03_reader_quoted_l1_eq (base : Nat) (t0 t3 : V) (H : Heap) : ref03_reader_quoted_l1 base t0 t3 H =
 bcall (E n_ref03_reader_at [t0, (.int .i64 0)] H) (fun v8 h9 =>
 bnd (oBin .geq 6 v8 (.int .i64 32)) fun v10 =>
 bnd (gua v10 true (oMove t0) (some (.tup []))) fun v11 =>
 bcall (gua v10 true (E n_ref03_reader_at [v11, (.int .i64 0)] h9) (some (.ret (.tup []), h9))) (fun v12 h13 =>
 bnd (gua v10 true (oBin .lss 6 v12 (.int .i64 127)) (some (.tup []))) fun v14 =>
 bnd (oPick v10 v14 (.bool false)) fun v15 =>
 bnd (gua v15 true (oMove t0) (some (.tup []))) fun v16 =>
 bcall (gua v15 true (E n_ref03_reader_at [v16, (.int .i64 0)] h13) (some (.ret (.tup []), h13))) (fun v17 h18 =>
 bnd (gua v15 true (oBin .neq 6 v17 (.int .i64 34)) (some (.tup []))) fun v19 =>
 bnd (oPick v15 v19 (.bool false)) fun v20 =>
 cnd v20
 (bnd (oNil t0) fun v21 =>
 bnd (oFieldPtr v21 0) fun v22 =>
 bnd (oLoad false 1 h18 v22) fun v23 =>
 bnd (oNil t0) fun v24 =>
 bnd (oFieldPtr v24 1) fun v25 =>
 bnd (oLoad false 1 h18 v25) fun v26 =>
 bnd (oNil t0) fun v27 =>
 bnd (oFieldPtr v27 1) fun v28 =>
 bnd (oLoad false 1 h18 v28) fun v29 =>
 bnd (oBin .add 6 v29 (.int .i64 1)) fun v30 =>
 bnd (oSliceStr v23 (some v26) (some v30) none) fun v31 =>
 bnd (oBin .add 6 t3 v31) fun v32 =>
 bnd (oNil t0) fun v33 =>
 bnd (oFieldPtr v33 1) fun v34 =>
 bnd (oLoad false 1 h18 v34) fun v35 =>
 bnd (oBin .add 6 v35 (.int .i64 1)) fun v36 =>
 bnd (oNil t0) fun v37 =>
 bnd (oFieldPtr v37 1) fun v38 =>
 beff (oStore base 1 h18 v38 v36) fun v39 h40 =>
 ref03_reader_quoted_l1 base t0 v32 h40)
 (bcall (E n_ref03_reader_at [t0, (.int .i64 0)] h18) (fun v41 h42 =>
 bnd (oBin .neq 6 v41 (.int .i64 34)) fun v43 =>
 cnd v43
 (bcall (E n_ref03_reader_fail [t0, (.int .i64 20)] h42) (fun v44 h45 =>
 ref03_reader_quoted_j2 base t0 t3 h45)
 (fun v44 h45 => pn false base v44 h45))
 (ref03_reader_quoted_j2 base t0 t3 h42))
 (fun v41 h42 => pn false base v41 h42)))
 (fun v17 h18 => pn false base v17 h18))
 (fun v12 h13 => pn false base v12 h13))
 (fun v8 h9 => pn false base v8 h9) := (loop_eq (cAt [1, 1, 1, 0, 0, 0] ref03_reader_quoted_c) ((blockK 0 ((seqK (fun _ t => ref03_reader_quoted_C base (cAt [1, 1, 1, 1] ref03_reader_quoted_c) (ref03_reader_quoted_e base) (trimA ref03_reader_quoted_ks (cAt [1, 1, 1, 1] ref03_reader_quoted_c) t)) (ref03_reader_quoted_e base))))) _ H []).trans (by kernel_rfl)
def ref03_reader_quoted (base : Nat) (t0 : V) (H : Heap) : Option (Out × Heap) := ref03_reader_quoted_C base ref03_reader_quoted_c (ref03_reader_quoted_e base) [(0, t0)] H []
theorem ref03_reader_quoted_eq (base : Nat) (t0 : V) (H : Heap) : ref03_reader_quoted base t0 H =
 bnd (oNil t0) fun v0 =>
 bnd (oFieldPtr v0 1) fun v1 =>
 bnd (oLoad false 1 H v1) fun v2 =>
 bnd (oBin .add 6 v2 (.int .i64 1)) fun v3 =>
 bnd (oNil t0) fun v4 =>
 bnd (oFieldPtr v4 1) fun v5 =>
 beff (oStore base 1 H v5 v3) fun v6 h7 =>
 ref03_reader_quoted_l1 base t0 (.str []) h7 := by kernel_rfl
theorem ref03_reader_quoted_E (t0 : V) (H : Heap) : E n_ref03_reader_quoted [t0] H = ref03_reader_quoted H.length t0 H := (EV_at Tryd.func109 (by kernel_rfl) (by kernel_rfl) (by kernel_rfl)).trans (by kernel_rfl)

def ref03_reader_need_c : Code := bodyOf Tryd.f110
def ref03_reader_need_ks : Ks := [(4, [5])]
def ref03_reader_need_e (base : Nat) : KC (Out × Heap) := xEnd Tryd.prog D false base 14 Tryd.f110.results.toList
def ref03_reader_need_C (base : Nat) (c : Code) (k : KC (Out × Heap)) (t : Ts) (H : Heap) (d : Ds) : Option (Out × Heap) := xC Tryd.prog base false ref03_reader_need_ks E 14 c k t H d
def ref03_reader_need_j1 (base : Nat) (t5 : V) (H : Heap) : Option (Out × Heap) :=
ref03_reader_need_C base (cAt [1, 1, 1] ref03_reader_need_c) (ref03_reader_need_e base) [(5, t5)] H []
theorem ref03_reader_need_j1_eq (base : Nat) (t5 : V) (H : Heap) : ref03_reader_need_j1 base t5 H =
 rt false base t5 H := by kernel_rfl
def ref03_reader_need (base : Nat) (t0 t1 : V) (H : Heap) : Option (Out × Heap) := ref03_reader_need_C base ref03_reader_need_c (ref03_reader_need_e base) [(0, t0), (1, t1)] H []
theorem ref03_reader_need_eq (base : Nat) (t0 t1 : V) (H : Heap) : ref03_reader_need base t0 t1 H =
 bcall (E n_ref03_reader_number [t0, t1, (.int .i64 1114111)] H) (fun v0 h1 =>
 bnd (oBin .lss 6 v0 (.int .i64 0)) fun v2 =>
 cnd v2
 (bcall (E n_ref03_reader_fail [t0, (.int .i64 20)] h1) (fun v3 h4 =>
 ref03_reader_need_j1 base v0 h4)
 (fun v3 h4 => pn false base v3 h4))
 (ref03_reader_need_j1 base v0 h1))
 (fun v0 h1 => pn false base v0 h1) := by kernel_rfl
theorem ref03_reader_need_E (t0 t1 : V) (H : Heap) : E n_ref03_reader_need [t0, t1] H = ref03_reader_need H.length t0 t1 H := (EV_at Tryd.func110 (by kernel_rfl) (by kernel_rfl) (by kernel_rfl)).trans (by kernel_rfl)

def math_bits_TrailingZeros32_c : Code := bodyOf Tryd.f111
def math_bits_TrailingZeros32_ks : Ks := []
def math_bits_TrailingZeros32_e (base : Nat) : KC (Out × Heap) := xEnd Tryd.prog D false base 14 Tryd.f111.results.toList
def math_bits_TrailingZeros32_C (base : Nat) (c : Code) (k : KC (Out × Heap)) (t : Ts) (H : Heap) (d : Ds) : Option (Out × Heap) := xC Tryd.prog base false math_bits_TrailingZeros32_ks E 14 c k t H d
def math_bits_TrailingZeros32 (base : Nat) (t0 : V) (H : Heap) : Option (Out × Heap) := math_bits_TrailingZeros32_C base math_bits_TrailingZeros32_c (math_bits_TrailingZeros32_e base) [(0, t0)] H []
theorem math_bits_TrailingZeros32_eq (base : Nat) (t0 : V) (H : Heap) : math_bits_TrailingZeros32 base t0 H =
 bnd (oBin .eql 6 t0 (.int .u32 0)) fun v0 =>
 cnd v0
 (rt false base (.int .i64 32) H)
 (bnd (oUn .neg t0) fun v1 =>
 bnd (oBin .and 6 t0 v1) fun v2 =>
 bnd (oBin .mul 6 v2 (.int .u32 125613361)) fun v3 =>
 bnd (oBin .shr 6 v3 (.int .u64 27)) fun v4 =>
 bnd (oIndexPtrA 32 1 .junk v4) fun v5 =>
 bnd (oLoad false 1 H v5) fun v6 =>
 bnd (oIntTo .i64 v6) fun v7 =>
 rt false base v7 H) := by kernel_rfl
theorem math_bits_TrailingZeros32_E (t0 : V) (H : Heap) : E n_math_bits_TrailingZeros32 [t0] H = math_bits_TrailingZeros32 H.length t0 H := (EV_at Tryd.func111 (by kernel_rfl) (by kernel_rfl) (by kernel_rfl)).trans (by kernel_rfl)

def unicode_utf8_appendRuneNonASCII_c : Code := bodyOf Tryd.f113
def unicode_utf8_appendRuneNonASCII_ks : Ks := []
def unicode_utf8_appendRuneNonASCII_e (base : Nat) : KC (Out × Heap) := xEnd Tryd.prog D false base 78 Tryd.f113.results.toList
def unicode_utf8_appendRuneNonASCII_C (base : Nat) (c : Code) (k : KC (Out × Heap)) (t : Ts) (H : Heap) (d : Ds) : Option (Out × Heap) := xC Tryd.prog base false unicode_utf8_appendRuneNonASCII_ks E 78 c k t H d
def unicode_utf8_appendRuneNonASCII (base : Nat) (t0 t1 : V) (H : Heap) : Option (Out × Heap) := unicode_utf8_appendRuneNonASCII_C base unicode_utf8_appendRuneNonASCII_c (unicode_utf8_appendRuneNonASCII_e base) [(0, t0), (1, t1)] H []
theorem unicode_utf8_appendRuneNonASCII_eq (base : Nat) (t0 t1 : V) (H : Heap) : unicode_utf8_appendRuneNonASCII base t0 t1 H =
 bnd (oIntTo .u32 t1) fun v0 =>
 bnd (oBin .leq 6 v0 (.int .u32 2047)) fun v1 =>
 cnd v1
 (bnd (oBin .shr 6 t1 (.int .u64 6)) fun v2 =>
 bnd (oIntTo .u8 v2) fun v3 =>
 bnd (oBin .or 6 (.int .u8 192) v3) fun v4 =>
 bnd (oIntTo .u8 t1) fun v5 =>
 bnd (oBin .and 6 v5 (.int .u8 63)) fun v6 =>
 bnd (oBin .or 6 (.int .u8 128) v6) fun v7 =>
 bnd (oLit 1 2 (.int .u8 0) [(0, v4), (1, v7)]) fun v8 =>
 beff (oAppend base 1 1 false t0 v8 H) fun v9 h10 =>
 rt false base v9 h10)
 (bnd (oBin .lss 6 v0 (.int .u32 55296)) fun v11 =>
 cnd v11
 (cnd v11
 (bnd (oBin .shr 6 t1 (.int .u64 12)) fun v12 =>
 bnd (oIntTo .u8 v12) fun v13 =>
 bnd (oBin .or 6 (.int .u8 224) v13) fun v14 =>
 bnd (oBin .shr 6 t1 (.int .u64 6)) fun v15 =>
 bnd (oIntTo .u8 v15) fun v16 =>
 bnd (oBin .and 6 v16 (.int .u8 63)) fun v17 =>
 bnd (oBin .or 6 (.int .u8 128) v17) fun v18 =>
 bnd (oIntTo .u8 t1) fun v19 =>
 bnd (oBin .and 6 v19 (.int .u8 63)) fun v20 =>
 bnd (oBin .or 6 (.int .u8 128) v20) fun v21 =>
 bnd (oLit 1 3 (.int .u8 0) [(0, v14), (1, v18), (2, v21)]) fun v22 =>
 beff (oAppend base 1 1 false t0 v22 H) fun v23 h24 =>
 rt false base v23 h24)
 (bnd (oBin .gtr 6 v0 (.int .u32 65535)) fun v25 =>
 bnd (gua v25 true (oMove v0) (some (.tup []))) fun v26 =>
 bnd (gua v25 true (oBin .leq 6 v26 (.int .u32 1114111)) (some (.tup []))) fun v27 =>
 bnd (oPick v25 v27 (.bool false)) fun v28 =>
 cnd v28
 (bnd (oBin .shr 6 t1 (.int .u64 18)) fun v29 =>
 bnd (oIntTo .u8 v29) fun v30 =>
 bnd (oBin .or 6 (.int .u8 240) v30) fun v31 =>
 bnd (oBin .shr 6 t1 (.int .u64 12)) fun v32 =>
 bnd (oIntTo .u8 v32) fun v33 =>
 bnd (oBin .and 6 v33 (.int .u8 63)) fun v34 =>
 bnd (oBin .or 6 (.int .u8 128) v34) fun v35 =>
 bnd (oBin .shr 6 t1 (.int .u64 6)) fun v36 =>
 bnd (oIntTo .u8 v36) fun v37 =>
 bnd (oBin .and 6 v37 (.int .u8 63)) fun v38 =>
 bnd (oBin .or 6 (.int .u8 128) v38) fun v39 =>
 bnd (oIntTo .u8 t1) fun v40 =>
 bnd (oBin .and 6 v40 (.int .u8 63)) fun v41 =>
 bnd (oBin .or 6 (.int .u8 128) v41) fun v42 =>
 bnd (oLit 1 4 (.int .u8 0) [(0, v31), (1, v35), (2, v39), (3, v42)]) fun v43 =>
 beff (oAppend base 1 1 false t0 v43 H) fun v44 h45 =>
 rt false base v44 h45)
 (bnd (oLit 1 3 (.int .u8 0) [(0, (.int .u8 239)), (1, (.int .u8 191)), (2, (.int .u8 189))]) fun v46 =>
 beff (oAppend base 1 1 false t0 v46 H) fun v47 h48 =>
 rt false base v47 h48)))
 (bnd (oBin .lss 6 (.int .u32 57343) v0) fun v49 =>
 bnd (gua v49 true (oMove v0) (some (.tup []))) fun v50 =>
 bnd (gua v49 true (oBin .leq 6 v50 (.int .u32 65535)) (some (.tup []))) fun v51 =>
 bnd (oPick v49 v51 (.bool false)) fun v52 =>
 cnd v52
 (bnd (oBin .shr 6 t1 (.int .u64 12)) fun v53 =>
 bnd (oIntTo .u8 v53) fun v54 =>
 bnd (oBin .or 6 (.int .u8 224) v54) fun v55 =>
 bnd (oBin .shr 6 t1 (.int .u64 6)) fun v56 =>
 bnd (oIntTo .u8 v56) fun v57 =>
 bnd (oBin .and 6 v57 (.int .u8 63)) fun v58 =>
 bnd (oBin .or 6 (.int .u8 128) v58) fun v59 =>
 bnd (oIntTo .u8 t1) fun v60 =>
 bnd (oBin .and 6 v60 (.int .u8 63)) fun v61 =>
 bnd (oBin .or 6 (.int .u8 128) v61) fun v62 =>
 bnd (oLit 1 3 (.int .u8 0) [(0, v55), (1, v59), (2, v62)]) fun v63 =>
 beff (oAppend base 1 1 false t0 v63 H) fun v64 h65 =>
 rt false base v64 h65)
 (bnd (oBin .gtr 6 v0 (.int .u32 65535)) fun v66 =>
 bnd (gua v66 true (oMove v0) (some (.tup []))) fun v67 =>
 bnd (gua v66 true (oBin .leq 6 v67 (.int .u32 1114111)) (some (.tup []))) fun v68 =>
 bnd (oPick v66 v68 (.bool false)) fun v69 =>
 cnd v69
 (bnd (oBin .shr 6 t1 (.int .u64 18)) fun v70 =>
 bnd (oIntTo .u8 v70) fun v71 =>
 bnd (oBin .or 6 (.int .u8 240) v71) fun v72 =>
 bnd (oBin .shr 6 t1 (.int .u64 12)) fun v73 =>
 bnd (oIntTo .u8 v73) fun v74 =>
 bnd (oBin .and 6 v74 (.int .u8 63)) fun v75 =>
 bnd (oBin .or 6 (.int .u8 128) v75) fun v76 =>
 bnd (oBin .shr 6 t1 (.int .u64 6)) fun v77 =>
 bnd (oIntTo .u8 v77) fun v78 =>
 bnd (oBin .and 6 v78 (.int .u8 63)) fun v79 =>
 bnd (oBin .or 6 (.int .u8 128) v79) fun v80 =>
 bnd (oIntTo .u8 t1) fun v81 =>
 bnd (oBin .and 6 v81 (.int .u8 63)) fun v82 =>
 bnd (oBin .or 6 (.int .u8 128) v82) fun v83 =>
 bnd (oLit 1 4 (.int .u8 0) [(0, v72), (1, v76), (2, v80), (3, v83)]) fun v84 =>
 beff (oAppend base 1 1 false t0 v84 H) fun v85 h86 =>
 rt false base v85 h86)
 (bnd (oLit 1 3 (.int .u8 0) [(0, (.int .u8 239)), (1, (.int .u8 191)), (2, (.int .u8 189))]) fun v87 =>
 beff (oAppend base 1 1 false t0 v87 H) fun v88 h89 =>
 rt false base v88 h89)))) := by kernel_rfl
theorem unicode_utf8_appendRuneNonASCII_E (t0 t1 : V) (H : Heap) : E n_unicode_utf8_appendRuneNonASCII [t0, t1] H = unicode_utf8_appendRuneNonASCII H.length t0 t1 H := (EV_at Tryd.func113 (by kernel_rfl) (by kernel_rfl) (by kernel_rfl)).trans (by kernel_rfl)

def unicode_lookupCaseRange_c : Code := bodyOf Tryd.f114
def unicode_lookupCaseRange_ks : Ks := [(3, [0, 1, 5, 6])]
def unicode_lookupCaseRange_e (base : Nat) : KC (Out × Heap) := xEnd Tryd.prog D false base 50 Tryd.f114.results.toList
def unicode_lookupCaseRange_C (base : Nat) (c : Code) (k : KC (Out × Heap)) (t : Ts) (H : Heap) (d : Ds) : Option (Out × Heap) := xC Tryd.prog base false unicode_lookupCaseRange_ks E 50 c k t H d
def unicode_lookupCaseRange_l1 (base : Nat) (t0 t1 t5 t6 : V) (H : Heap) : Option (Out × Heap) :=
iterL (fun t H d again => unicode_lookupCaseRange_C base (cAt [1, 1, 1, 0, 0, 0] unicode_lookupCaseRange_c) (loopK unicode_lookupCaseRange_ks (cAt [1, 1, 1, 0, 0, 0] unicode_lookupCaseRange_c) again ((blockK 0 ((seqK (fun _ t => unicode_lookupCaseRange_C base (cAt [1, 1, 1, 1] unicode_lookupCaseRange_c) (unicode_lookupCaseRange_e base) (trimA unicode_lookupCaseRange_ks (cAt [1, 1, 1, 1] unicode_lookupCaseRange_c) t)) (unicode_lookupCaseRange_e base)))))) t H d) [(0, t0), (1, t1), (5, t5), (6, t6)] H []
theorem unicode_lookupCaseRange_l1_eq (base : Nat) (t0 t1 t5 t6 : V) (H : Heap) : unicode_lookupCaseRange_l1 base t0 t1 t5 t6 H =
 bnd (oBin .lss 6 t5 t6) fun v1 =>
 cnd v1
 (bnd (oBin .add 6 t5 t6) fun v2 =>
 bnd (oIntTo .u64 v2) fun v3 =>
 bnd (oBin .shr 6 v3 (.int .u64 1)) fun v4 =>
 bnd (oIntTo .i64 v4) fun v5 =>
 bnd (oIndexPtr 5 t1 v5) fun v6 =>
 bnd (oNil v6) fun v7 =>
 bnd (oFieldPtr v7 0) fun v8 =>
 bnd (oLoad false 1 H v8) fun v9 =>
 bnd (oIntTo .i32 v9) fun v10 =>
 bnd (oBin .leq 6 v10 t0) fun v11 =>
 bnd (gua v11 true (oMove t0) (some (.tup []))) fun v12 =>
 bnd (gua v11 true (oMove v6) (some (.tup []))) fun v13 =>
 bnd (gua v11 true (oNil v13) (some (.tup []))) fun v14 =>
 bnd (gua v11 true (oFieldPtr v14 1) (some (.tup []))) fun v15 =>
 bnd (gua v11 true (oLoad false 1 H v15) (some (.tup []))) fun v16 =>
 bnd (gua v11 true (oIntTo .i32 v16) (some (.tup []))) fun v17 =>
 bnd (gua v11 true (oBin .leq 6 v12 v17) (some (.tup []))) fun v18 =>
 bnd (oPick v11 v18 (.bool false)) fun v19 =>
 cnd v19
 (rt false base v6 H)
 (bnd (oNil v6) fun v20 =>
 bnd (oFieldPtr v20 0) fun v21 =>
 bnd (oLoad false 1 H v21) fun v22 =>
 bnd (oIntTo .i32 v22) fun v23 =>
 bnd (oBin .lss 6 t0 v23) fun v24 =>
 cnd v24
 (unicode_lookupCaseRange_l1 base t0 t1 t5 v5 H)
 (bnd (oBin .add 6 v5 (.int .i64 1)) fun v25 =>
 unicode_lookupCaseRange_l1 base t0 t1 v25 t6 H)))
 (rt false base .nilptr H) := (loop_eq (cAt [1, 1, 1, 0, 0, 0] unicode_lookupCaseRange_c) ((blockK 0 ((seqK (fun _ t => unicode_lookupCaseRange_C base (cAt [1, 1, 1, 1] unicode_lookupCaseRange_c) (unicode_lookupCaseRange_e base) (trimA unicode_lookupCaseRange_ks (cAt [1, 1, 1, 1] unicode_lookupCaseRange_c) t)) (unicode_lookupCaseRange_e base))))) _ H []).trans (by kernel_rfl)
def unicode_lookupCaseRange (base : Nat) (t0 t1 : V) (H : Heap) : Option (Out × Heap) := unicode_lookupCaseRange_C base unicode_lookupCaseRange_c (unicode_lookupCaseRange_e base) [(0, t0), (1, t1)] H []
theorem unicode_lookupCaseRange_eq (base : Nat) (t0 t1 : V) (H : Heap) : unicode_lookupCaseRange base t0 t1 H =
 bnd (oLenSl t1) fun v0 =>
 unicode_lookupCaseRange_l1 base t0 t1 (.int .i64 0) v0 H := by kernel_rfl
theorem unicode_lookupCaseRange_E (t0 t1 : V) (H : Heap) : E n_unicode_lookupCaseRange [t0, t1] H = unicode_lookupCaseRange H.length t0 t1 H := (EV_at Tryd.func114 (by kernel_rfl) (by kernel_rfl) (by kernel_rfl)).trans (by kernel_rfl)

def unicode_convertCase_c : Code := bodyOf Tryd.f115
def unicode_convertCase_ks : Ks := []
def unicode_convertCase_e (base : Nat) : KC (Out × Heap) := xEnd Tryd.prog D false base 37 Tryd.f115.results.toList
def unicode_convertCase_C (base : Nat) (c : Code) (k : KC (Out × Heap)) (t : Ts) (H : Heap) (d : Ds) : Option (Out × Heap) := xC Tryd.prog base false unicode_convertCase_ks E 37 c k t H d
def unicode_convertCase (base : Nat) (t0 t1 t2 : V) (H : Heap) : Option (Out × Heap) := unicode_convertCase_C base unicode_convertCase_c (unicode_convertCase_e base) [(0, t0), (1, t1), (2, t2)] H []
theorem unicode_convertCase_eq (base : Nat) (t0 t1 t2 : V) (H : Heap) : unicode_convertCase base t0 t1 t2 H =
 bnd (oNil t2) fun v0 =>
 bnd (oFieldPtr v0 2) fun v1 =>
 bnd (oIndexPtrA 3 1 v1 t0) fun v2 =>
 bnd (oLoad false 1 H v2) fun v3 =>
 bnd (oBin .gtr 6 v3 (.int .i32 1114111)) fun v4 =>
 cnd v4
 (bnd (oNil t2) fun v5 =>
 bnd (oFieldPtr v5 0) fun v6 =>
 bnd (oLoad false 1 H v6) fun v7 =>
 bnd (oIntTo .i32 v7) fun v8 =>
 bnd (oNil t2) fun v9 =>
 bnd (oFieldPtr v9 0) fun v10 =>
 bnd (oLoad false 1 H v10) fun v11 =>
 bnd (oIntTo .i32 v11) fun v12 =>
 bnd (oBin .sub 6 t1 v12) fun v13 =>
 bnd (oBin .andNot 6 v13 (.int .i32 1)) fun v14 =>
 bnd (oBin .and 6 t0 (.int .i64 1)) fun v15 =>
 bnd (oIntTo .i32 v15) fun v16 =>
 bnd (oBin .or 6 v14 v16) fun v17 =>
 bnd (oBin .add 6 v8 v17) fun v18 =>
 rt false base v18 H)
 (bnd (oBin .add 6 t1 v3) fun v19 =>
 rt false base v19 H) := by kernel_rfl
theorem unicode_convertCase_E (t0 t1 t2 : V) (H : Heap) : E n_unicode_convertCase [t0, t1, t2] H = unicode_convertCase H.length t0 t1 t2 H := (EV_at Tryd.func115 (by kernel_rfl) (by kernel_rfl) (by kernel_rfl)).trans (by kernel_rfl)
end
end Go.Proofs.YthcjjicplodhjaaDoor
end

