/- Fn5: a part of the proof that each law of this seat answers true at every input. No condition. -/
import Derived.Test.YthcjjicplodhjaaDoorHint
import Derived.KernelRfl
set_option linter.unusedVariables false
set_option linter.unusedSimpArgs false
set_option maxRecDepth 20000
section
/- Printed: what functions do. -/
namespace Go.Proofs.YthcjjicplodhjaaDoor
open Go Go.Ev
set_option linter.unusedVariables false
noncomputable section

def slices_IndexFunc_int_int_c : Code := bodyOf Tryd.f81
def slices_IndexFunc_int_int_ks : Ks := [(2, [0, 1, 7, 8])]
def slices_IndexFunc_int_int_e (base : Nat) : KC (Out × Heap) := xEnd Tryd.prog D false base 19 Tryd.f81.results.toList
def slices_IndexFunc_int_int_C (base : Nat) (c : Code) (k : KC (Out × Heap)) (t : Ts) (H : Heap) (d : Ds) : Option (Out × Heap) := xC Tryd.prog base false slices_IndexFunc_int_int_ks E 19 c k t H d
def slices_IndexFunc_int_int_l1 (base : Nat) (t0 t1 t7 t8 : V) (H : Heap) : Option (Out × Heap) :=
iterL (fun t H d again => slices_IndexFunc_int_int_C base (cAt [1, 0, 1, 0, 0] slices_IndexFunc_int_int_c) (loopK slices_IndexFunc_int_int_ks (cAt [1, 0, 1, 0, 0] slices_IndexFunc_int_int_c) again ((blockK 0 ((seqK (fun _ t => slices_IndexFunc_int_int_C base (cAt [1, 1] slices_IndexFunc_int_int_c) (slices_IndexFunc_int_int_e base) (trimA slices_IndexFunc_int_int_ks (cAt [1, 1] slices_IndexFunc_int_int_c) t)) (slices_IndexFunc_int_int_e base)))))) t H d) [(0, t0), (1, t1), (7, t7), (8, t8)] H []
theorem slices_IndexFunc_int_int_l1_eq (base : Nat) (t0 t1 t7 t8 : V) (H : Heap) : slices_IndexFunc_int_int_l1 base t0 t1 t7 t8 H =
 bnd (oBin .lss 6 t8 t7) fun v1 =>
 cnd v1
 (bnd (oIndexPtr 1 t0 t8) fun v2 =>
 bnd (oLoad false 1 H v2) fun v3 =>
 bcall (oDyn E t1 [v3] H) (fun v4 h5 =>
 cnd v4
 (rt false base t8 h5)
 (bnd (oBin .add 6 t8 (.int .i64 1)) fun v6 =>
 slices_IndexFunc_int_int_l1 base t0 t1 t7 v6 h5))
 (fun v4 h5 => pn false base v4 h5))
 (rt false base (.int .i64 (-1)) H) := (loop_eq (cAt [1, 0, 1, 0, 0] slices_IndexFunc_int_int_c) ((blockK 0 ((seqK (fun _ t => slices_IndexFunc_int_int_C base (cAt [1, 1] slices_IndexFunc_int_int_c) (slices_IndexFunc_int_int_e base) (trimA slices_IndexFunc_int_int_ks (cAt [1, 1] slices_IndexFunc_int_int_c) t)) (slices_IndexFunc_int_int_e base))))) _ H []).trans (by kernel_rfl)
def slices_IndexFunc_int_int (base : Nat) (t0 t1 : V) (H : Heap) : Option (Out × Heap) := slices_IndexFunc_int_int_C base slices_IndexFunc_int_int_c (slices_IndexFunc_int_int_e base) [(0, t0), (1, t1)] H []
theorem slices_IndexFunc_int_int_eq (base : Nat) (t0 t1 : V) (H : Heap) : slices_IndexFunc_int_int base t0 t1 H =
 bnd (oLenSl t0) fun v0 =>
 slices_IndexFunc_int_int_l1 base t0 t1 v0 (.int .i64 0) H := by kernel_rfl
theorem slices_IndexFunc_int_int_E (t0 t1 : V) (H : Heap) : E n_slices_IndexFunc_int_int [t0, t1] H = slices_IndexFunc_int_int H.length t0 t1 H := (EV_at Tryd.func81 (by kernel_rfl) (by kernel_rfl) (by kernel_rfl)).trans (by kernel_rfl)

def internal_strconv_FormatInt_c : Code := bodyOf Tryd.f83
def internal_strconv_FormatInt_ks : Ks := [(8, [0, 5, 6])]
def internal_strconv_FormatInt_e (base : Nat) : KC (Out × Heap) := xEnd Tryd.prog D false base 54 Tryd.f83.results.toList
def internal_strconv_FormatInt_C (base : Nat) (c : Code) (k : KC (Out × Heap)) (t : Ts) (H : Heap) (d : Ds) : Option (Out × Heap) := xC Tryd.prog base false internal_strconv_FormatInt_ks E 54 c k t H d
def internal_strconv_FormatInt_j1 (base : Nat) (t0 t5 t6 : V) (H : Heap) : Option (Out × Heap) :=
internal_strconv_FormatInt_C base (cAt [1, 0, 1, 0, 1, 1, 1, 1] internal_strconv_FormatInt_c) ((seqK (fun _ t => internal_strconv_FormatInt_C base (cAt [1, 1] internal_strconv_FormatInt_c) (internal_strconv_FormatInt_e base) (trimA internal_strconv_FormatInt_ks (cAt [1, 1] internal_strconv_FormatInt_c) t)) (internal_strconv_FormatInt_e base))) [(0, t0), (5, t5), (6, t6)] H []
theorem internal_strconv_FormatInt_j1_eq (base : Nat) (t0 t5 t6 : V) (H : Heap) : internal_strconv_FormatInt_j1 base t0 t5 t6 H =
 bcall (E n_internal_strconv_numDigits [t6] H) (fun v12 h13 =>
 bnd (oBin .add 6 (.int .i64 1) v12) fun v14 =>
 beff (oSliceA 1 24 false t5 (some (.int .i64 1)) (some v14) none h13) fun v15 h16 =>
 bcall (E n_internal_strconv_formatBase10 [v15, t6] h16) (fun v17 h18 =>
 bnd (oBin .lss 6 t0 (.int .i64 0)) fun v19 =>
 cnd v19
 (bnd (oIndexPtrA 24 1 t5 (.int .i64 0)) fun v20 =>
 beff (oStore base 1 h18 v20 (.int .u8 45)) fun v21 h22 =>
 bnd (oBin .add 6 (.int .i64 1) v12) fun v23 =>
 beff (oSliceA 1 24 false t5 none (some v23) none h22) fun v24 h25 =>
 bnd (oText h25 v24) fun v26 =>
 rt false base v26 h25)
 (bnd (oBin .add 6 (.int .i64 1) v12) fun v27 =>
 beff (oSliceA 1 24 false t5 (some (.int .i64 1)) (some v27) none h18) fun v28 h29 =>
 bnd (oText h29 v28) fun v30 =>
 rt false base v30 h29))
 (fun v17 h18 => pn false base v17 h18))
 (fun v12 h13 => pn false base v12 h13) := by kernel_rfl
def internal_strconv_FormatInt (base : Nat) (t0 t1 : V) (H : Heap) : Option (Out × Heap) := internal_strconv_FormatInt_C base internal_strconv_FormatInt_c (internal_strconv_FormatInt_e base) [(0, t0), (1, t1)] H []
theorem internal_strconv_FormatInt_eq (base : Nat) (t0 t1 : V) (H : Heap) : internal_strconv_FormatInt base t0 t1 H =
 bnd (oBin .eql 6 t1 (.int .i64 10)) fun v0 =>
 cnd v0
 (bnd (oBin .leq 6 (.int .i64 0) t0) fun v1 =>
 bnd (gua v1 true (oMove t0) (some (.tup []))) fun v2 =>
 bnd (gua v1 true (oBin .lss 6 v2 (.int .i64 100)) (some (.tup []))) fun v3 =>
 bnd (oPick v1 v3 (.bool false)) fun v4 =>
 cnd v4
 (bcall (E n_internal_strconv_small [t0] H) (fun v5 h6 =>
 rt false base v5 h6)
 (fun v5 h6 => pn false base v5 h6))
 (beff (oVar H (.agg [(.int .u8 0), (.int .u8 0), (.int .u8 0), (.int .u8 0), (.int .u8 0), (.int .u8 0), (.int .u8 0), (.int .u8 0), (.int .u8 0), (.int .u8 0), (.int .u8 0), (.int .u8 0), (.int .u8 0), (.int .u8 0), (.int .u8 0), (.int .u8 0), (.int .u8 0), (.int .u8 0), (.int .u8 0), (.int .u8 0), (.int .u8 0), (.int .u8 0), (.int .u8 0), (.int .u8 0)])) fun v7 h8 =>
 bnd (oIntTo .u64 t0) fun v9 =>
 bnd (oBin .lss 6 t0 (.int .i64 0)) fun v10 =>
 cnd v10
 (bnd (oUn .neg v9) fun v11 =>
 internal_strconv_FormatInt_j1 base t0 v7 v11 h8)
 (internal_strconv_FormatInt_j1 base t0 v7 v9 h8)))
 (bnd (oIntTo .u64 t0) fun v31 =>
 bnd (oBin .lss 6 t0 (.int .i64 0)) fun v32 =>
 bcall (E n_internal_strconv_formatBits [.nils, v31, t1, v32, (.bool false)] H) (fun v33 h34 =>
 bnd (oExtract v33 0) fun v35 =>
 bnd (oExtract v33 1) fun v36 =>
 rt false base v36 h34)
 (fun v33 h34 => pn false base v33 h34)) := by kernel_rfl
theorem internal_strconv_FormatInt_E (t0 t1 : V) (H : Heap) : E n_internal_strconv_FormatInt [t0, t1] H = internal_strconv_FormatInt H.length t0 t1 H := (EV_at Tryd.func83 (by kernel_rfl) (by kernel_rfl) (by kernel_rfl)).trans (by kernel_rfl)

def strings_Builder_WriteByte_c : Code := bodyOf Tryd.f84
def strings_Builder_WriteByte_ks : Ks := []
def strings_Builder_WriteByte_e (base : Nat) : KC (Out × Heap) := xEnd Tryd.prog D false base 17 Tryd.f84.results.toList
def strings_Builder_WriteByte_C (base : Nat) (c : Code) (k : KC (Out × Heap)) (t : Ts) (H : Heap) (d : Ds) : Option (Out × Heap) := xC Tryd.prog base false strings_Builder_WriteByte_ks E 17 c k t H d
def strings_Builder_WriteByte (base : Nat) (t0 t1 : V) (H : Heap) : Option (Out × Heap) := strings_Builder_WriteByte_C base strings_Builder_WriteByte_c (strings_Builder_WriteByte_e base) [(0, t0), (1, t1)] H []
theorem strings_Builder_WriteByte_eq (base : Nat) (t0 t1 : V) (H : Heap) : strings_Builder_WriteByte base t0 t1 H =
 bcall (E n_strings_Builder_copyCheck [t0] H) (fun v0 h1 =>
 bnd (oNil t0) fun v2 =>
 bnd (oFieldPtr v2 1) fun v3 =>
 bnd (oLoad false 1 h1 v3) fun v4 =>
 bnd (oLit 1 1 (.int .u8 0) [(0, t1)]) fun v5 =>
 beff (oAppend base 1 1 false v4 v5 h1) fun v6 h7 =>
 bnd (oNil t0) fun v8 =>
 bnd (oFieldPtr v8 1) fun v9 =>
 beff (oStore base 1 h7 v9 v6) fun v10 h11 =>
 rt false base .niface h11)
 (fun v0 h1 => pn false base v0 h1) := by kernel_rfl
theorem strings_Builder_WriteByte_E (t0 t1 : V) (H : Heap) : E n_strings_Builder_WriteByte [t0, t1] H = strings_Builder_WriteByte H.length t0 t1 H := (EV_at Tryd.func84 (by kernel_rfl) (by kernel_rfl) (by kernel_rfl)).trans (by kernel_rfl)

def unicode_ToUpper_c : Code := bodyOf Tryd.f86
def unicode_ToUpper_ks : Ks := [(4, [0])]
def unicode_ToUpper_e (base : Nat) : KC (Out × Heap) := xEnd Tryd.prog D false base 16 Tryd.f86.results.toList
def unicode_ToUpper_C (base : Nat) (c : Code) (k : KC (Out × Heap)) (t : Ts) (H : Heap) (d : Ds) : Option (Out × Heap) := xC Tryd.prog base false unicode_ToUpper_ks E 16 c k t H d
def unicode_ToUpper_j1 (base : Nat) (t0 : V) (H : Heap) : Option (Out × Heap) :=
unicode_ToUpper_C base (cAt [1, 0, 1, 0, 1] unicode_ToUpper_c) ((seqK (fun _ t => unicode_ToUpper_C base (cAt [1, 1] unicode_ToUpper_c) (unicode_ToUpper_e base) (trimA unicode_ToUpper_ks (cAt [1, 1] unicode_ToUpper_c) t)) (unicode_ToUpper_e base))) [(0, t0)] H []
theorem unicode_ToUpper_j1_eq (base : Nat) (t0 : V) (H : Heap) : unicode_ToUpper_j1 base t0 H =
 rt false base t0 H := by kernel_rfl
def unicode_ToUpper (base : Nat) (t0 : V) (H : Heap) : Option (Out × Heap) := unicode_ToUpper_C base unicode_ToUpper_c (unicode_ToUpper_e base) [(0, t0)] H []
theorem unicode_ToUpper_eq (base : Nat) (t0 : V) (H : Heap) : unicode_ToUpper base t0 H =
 bnd (oBin .leq 6 t0 (.int .i32 127)) fun v0 =>
 cnd v0
 (bnd (oBin .leq 6 (.int .i32 97) t0) fun v1 =>
 bnd (gua v1 true (oMove t0) (some (.tup []))) fun v2 =>
 bnd (gua v1 true (oBin .leq 6 v2 (.int .i32 122)) (some (.tup []))) fun v3 =>
 bnd (oPick v1 v3 (.bool false)) fun v4 =>
 cnd v4
 (bnd (oBin .sub 6 t0 (.int .i32 32)) fun v5 =>
 unicode_ToUpper_j1 base v5 H)
 (unicode_ToUpper_j1 base t0 H))
 (bcall (E n_unicode_To [(.int .i64 0), t0] H) (fun v6 h7 =>
 rt false base v6 h7)
 (fun v6 h7 => pn false base v6 h7)) := by kernel_rfl
theorem unicode_ToUpper_E (t0 : V) (H : Heap) : E n_unicode_ToUpper [t0] H = unicode_ToUpper H.length t0 H := (EV_at Tryd.func86 (by kernel_rfl) (by kernel_rfl) (by kernel_rfl)).trans (by kernel_rfl)

def ref03_reader_number_c : Code := bodyOf Tryd.f87
def ref03_reader_number_ks : Ks := [(2, [0, 1, 2, 7]), (9, [0, 1, 2, 7, 9]), (14, [0, 1, 2, 7])]
def ref03_reader_number_e (base : Nat) : KC (Out × Heap) := xEnd Tryd.prog D false base 55 Tryd.f87.results.toList
def ref03_reader_number_C (base : Nat) (c : Code) (k : KC (Out × Heap)) (t : Ts) (H : Heap) (d : Ds) : Option (Out × Heap) := xC Tryd.prog base false ref03_reader_number_ks E 55 c k t H d
def ref03_reader_number_l1 (base : Nat) (t0 t1 t2 t7 : V) (H : Heap) : Option (Out × Heap) :=
iterL (fun t H d again => ref03_reader_number_C base (cAt [1, 1, 0, 0, 0] ref03_reader_number_c) (loopK ref03_reader_number_ks (cAt [1, 1, 0, 0, 0] ref03_reader_number_c) again ((blockK 0 ((seqK (fun _ t => ref03_reader_number_C base (cAt [1, 1, 1] ref03_reader_number_c) (ref03_reader_number_e base) (trimA ref03_reader_number_ks (cAt [1, 1, 1] ref03_reader_number_c) t)) (ref03_reader_number_e base)))))) t H d) [(0, t0), (1, t1), (2, t2), (7, t7)] H []
def ref03_reader_number_j3 (base : Nat) (t0 t1 t2 t7 : V) (H : Heap) : Option (Out × Heap) :=
ref03_reader_number_C base (cAt [1, 1, 0, 0, 0, 1, 0, 1, 1, 1, 1, 1, 1] ref03_reader_number_c) ((blockK 1 ((loopK ref03_reader_number_ks (cAt [1, 1, 0, 0, 0] ref03_reader_number_c) (iterL (fun t H d again => ref03_reader_number_C base (cAt [1, 1, 0, 0, 0] ref03_reader_number_c) (loopK ref03_reader_number_ks (cAt [1, 1, 0, 0, 0] ref03_reader_number_c) again ((blockK 0 ((seqK (fun _ t => ref03_reader_number_C base (cAt [1, 1, 1] ref03_reader_number_c) (ref03_reader_number_e base) (trimA ref03_reader_number_ks (cAt [1, 1, 1] ref03_reader_number_c) t)) (ref03_reader_number_e base)))))) t H d)) ((blockK 0 ((seqK (fun _ t => ref03_reader_number_C base (cAt [1, 1, 1] ref03_reader_number_c) (ref03_reader_number_e base) (trimA ref03_reader_number_ks (cAt [1, 1, 1] ref03_reader_number_c) t)) (ref03_reader_number_e base))))))))) [(0, t0), (1, t1), (2, t2), (7, t7)] H []
theorem ref03_reader_number_j3_eq (base : Nat) (t0 t1 t2 t7 : V) (H : Heap) : ref03_reader_number_j3 base t0 t1 t2 t7 H =
 bnd (oNil t0) fun v16 =>
 bnd (oFieldPtr v16 1) fun v17 =>
 bnd (oLoad false 1 H v17) fun v18 =>
 bnd (oBin .add 6 v18 (.int .i64 1)) fun v19 =>
 bnd (oNil t0) fun v20 =>
 bnd (oFieldPtr v20 1) fun v21 =>
 beff (oStore base 1 H v21 v19) fun v22 h23 =>
 ref03_reader_number_l1 base t0 t1 t2 t7 h23 := by kernel_rfl
def ref03_reader_number_j2 (base : Nat) (t0 t1 t2 t7 t9 : V) (H : Heap) : Option (Out × Heap) :=
ref03_reader_number_C base (cAt [1, 1, 0, 0, 0, 1, 0, 1, 1, 1] ref03_reader_number_c) ((blockK 1 ((loopK ref03_reader_number_ks (cAt [1, 1, 0, 0, 0] ref03_reader_number_c) (iterL (fun t H d again => ref03_reader_number_C base (cAt [1, 1, 0, 0, 0] ref03_reader_number_c) (loopK ref03_reader_number_ks (cAt [1, 1, 0, 0, 0] ref03_reader_number_c) again ((blockK 0 ((seqK (fun _ t => ref03_reader_number_C base (cAt [1, 1, 1] ref03_reader_number_c) (ref03_reader_number_e base) (trimA ref03_reader_number_ks (cAt [1, 1, 1] ref03_reader_number_c) t)) (ref03_reader_number_e base)))))) t H d)) ((blockK 0 ((seqK (fun _ t => ref03_reader_number_C base (cAt [1, 1, 1] ref03_reader_number_c) (ref03_reader_number_e base) (trimA ref03_reader_number_ks (cAt [1, 1, 1] ref03_reader_number_c) t)) (ref03_reader_number_e base))))))))) [(0, t0), (1, t1), (2, t2), (7, t7), (9, t9)] H []
theorem ref03_reader_number_j2_eq (base : Nat) (t0 t1 t2 t7 t9 : V) (H : Heap) : ref03_reader_number_j2 base t0 t1 t2 t7 t9 H =
 bnd (oBin .geq 6 t9 t1) fun v9 =>
 cnd v9
 (rt false base t7 H)
 (bnd (oMax [t7, (.int .i64 0)]) fun v10 =>
 bnd (oBin .mul 6 v10 t1) fun v11 =>
 bnd (oBin .add 6 v11 t9) fun v12 =>
 bnd (oBin .gtr 6 v12 t2) fun v13 =>
 cnd v13
 (bcall (E n_ref03_reader_fail [t0, (.int .i64 2)] H) (fun v14 h15 =>
 ref03_reader_number_j3 base t0 t1 t2 v12 h15)
 (fun v14 h15 => pn false base v14 h15))
 (ref03_reader_number_j3 base t0 t1 t2 v12 H)) := by kernel_rfl
theorem ref03_reader_number_l1_eq (base : Nat) (t0 t1 t2 t7 : V) (H : Heap) : ref03_reader_number_l1 base t0 t1 t2 t7 H =
 bnd (oNil t0) fun v0 =>
 bnd (oFieldPtr v0 2) fun v1 =>
 bnd (oLoad false 1 H v1) fun v2 =>
 bnd (oBin .eql 6 v2 (.int .i64 0)) fun v3 =>
 cnd v3
 (bcall (E n_ref03_reader_at [t0, (.int .i64 0)] H) (fun v4 h5 =>
 bcall (E n_ref03_digit [v4] h5) (fun v6 h7 =>
 cnd v6
 (bnd (oBin .sub 6 v4 (.int .i64 48)) fun v8 =>
 ref03_reader_number_j2 base t0 t1 t2 t7 v8 h7)
 (bcall (E n_ref03_alpha [v4] h7) (fun v24 h25 =>
 bnd (gua v24 true (oMove v4) (some (.tup []))) fun v26 =>
 bnd (gua v24 true (oBin .or 6 v26 (.int .i64 32)) (some (.tup []))) fun v27 =>
 bnd (gua v24 true (oBin .leq 6 v27 (.int .i64 102)) (some (.tup []))) fun v28 =>
 bnd (oPick v24 v28 (.bool false)) fun v29 =>
 cnd v29
 (bnd (oBin .or 6 v4 (.int .i64 32)) fun v30 =>
 bnd (oBin .sub 6 v30 (.int .i64 87)) fun v31 =>
 ref03_reader_number_j2 base t0 t1 t2 t7 v31 h25)
 (ref03_reader_number_j2 base t0 t1 t2 t7 (.int .i64 99) h25))
 (fun v24 h25 => pn false base v24 h25)))
 (fun v6 h7 => pn false base v6 h7))
 (fun v4 h5 => pn false base v4 h5))
 (rt false base (.int .i64 (-1)) H) := (loop_eq (cAt [1, 1, 0, 0, 0] ref03_reader_number_c) ((blockK 0 ((seqK (fun _ t => ref03_reader_number_C base (cAt [1, 1, 1] ref03_reader_number_c) (ref03_reader_number_e base) (trimA ref03_reader_number_ks (cAt [1, 1, 1] ref03_reader_number_c) t)) (ref03_reader_number_e base))))) _ H []).trans (by kernel_rfl)
def ref03_reader_number (base : Nat) (t0 t1 t2 : V) (H : Heap) : Option (Out × Heap) := ref03_reader_number_C base ref03_reader_number_c (ref03_reader_number_e base) [(0, t0), (1, t1), (2, t2)] H []
theorem ref03_reader_number_eq (base : Nat) (t0 t1 t2 : V) (H : Heap) : ref03_reader_number base t0 t1 t2 H =
 ref03_reader_number_l1 base t0 t1 t2 (.int .i64 (-1)) H := by kernel_rfl
theorem ref03_reader_number_E (t0 t1 t2 : V) (H : Heap) : E n_ref03_reader_number [t0, t1, t2] H = ref03_reader_number H.length t0 t1 t2 H := (EV_at Tryd.func87 (by kernel_rfl) (by kernel_rfl) (by kernel_rfl)).trans (by kernel_rfl)

def ref03_reader_element_c : Code := bodyOf Tryd.f88
def ref03_reader_element_ks : Ks := []
def ref03_reader_element_e (base : Nat) : KC (Out × Heap) := xEnd Tryd.prog D false base 42 Tryd.f88.results.toList
def ref03_reader_element_C (base : Nat) (c : Code) (k : KC (Out × Heap)) (t : Ts) (H : Heap) (d : Ds) : Option (Out × Heap) := xC Tryd.prog base false ref03_reader_element_ks E 42 c k t H d
def ref03_reader_element (base : Nat) (t0 t1 : V) (H : Heap) : Option (Out × Heap) := ref03_reader_element_C base ref03_reader_element_c (ref03_reader_element_e base) [(0, t0), (1, t1)] H []
theorem ref03_reader_element_eq (base : Nat) (t0 t1 : V) (H : Heap) : ref03_reader_element base t0 t1 H =
 beff (oVar H (.agg [(.int .i64 0), (.str []), .nils, (.int .i64 0), (.int .i64 0), .nils])) fun v0 h1 =>
 bcall (E n_ref03_reader_at [t0, (.int .i64 0)] h1) (fun v2 h3 =>
 bnd (oNil t0) fun v4 =>
 bnd (oFieldPtr v4 2) fun v5 =>
 bnd (oLoad false 1 h3 v5) fun v6 =>
 bnd (oBin .neq 6 v6 (.int .i64 0)) fun v7 =>
 cnd v7
 (bnd (oBuild [(.int .i64 0), (.str []), .nils, (.int .i64 0), (.int .i64 0), .nils] [(0, 1), (1, 1), (2, 1), (3, 1), (4, 1), (5, 1)] []) fun v8 =>
 beff (oStore base 6 h3 v0 v8) fun v9 h10 =>
 bnd (oLoad true 6 h10 v0) fun v11 =>
 rt false base v11 h10)
 (bnd (oBin .eql 6 v2 (.int .i64 40)) fun v12 =>
 cnd v12
 (bcall (E n_ref03_reader_group [t0, (.int .i64 41), t1] h3) (fun v13 h14 =>
 beff (oStore base 6 h14 v0 v13) fun v15 h16 =>
 bnd (oLoad true 6 h16 v0) fun v17 =>
 rt false base v17 h16)
 (fun v13 h14 => pn false base v13 h14))
 (bnd (oBin .eql 6 v2 (.int .i64 91)) fun v18 =>
 cnd v18
 (bcall (E n_ref03_reader_group [t0, (.int .i64 93), t1] h3) (fun v19 h20 =>
 bnd (oLit 6 1 (.agg [(.int .i64 0), (.str []), (.vs []), (.int .i64 0), (.int .i64 0), (.vs [])]) [(0, v19)]) fun v21 =>
 bnd (oBuild [(.int .i64 0), (.str []), .nils, (.int .i64 0), (.int .i64 0), .nils] [(0, 1), (1, 1), (2, 1), (3, 1), (4, 1), (5, 1)] [(0, (.int .i64 3)), (4, (.int .i64 1)), (5, v21)]) fun v22 =>
 beff (oStore base 6 h20 v0 v22) fun v23 h24 =>
 bnd (oLoad true 6 h24 v0) fun v25 =>
 rt false base v25 h24)
 (fun v19 h20 => pn false base v19 h20))
 (bnd (oBin .eql 6 v2 (.int .i64 34)) fun v26 =>
 cnd v26
 (bcall (E n_ref03_reader_text [t0, (.bool true)] h3) (fun v27 h28 =>
 beff (oStore base 6 h28 v0 v27) fun v29 h30 =>
 bnd (oLoad true 6 h30 v0) fun v31 =>
 rt false base v31 h30)
 (fun v27 h28 => pn false base v27 h28))
 (bnd (oBin .eql 6 v2 (.int .i64 37)) fun v32 =>
 cnd v32
 (bcall (E n_ref03_reader_value [t0] h3) (fun v33 h34 =>
 beff (oStore base 6 h34 v0 v33) fun v35 h36 =>
 bnd (oLoad true 6 h36 v0) fun v37 =>
 rt false base v37 h36)
 (fun v33 h34 => pn false base v33 h34))
 (bcall (E n_ref03_reader_name [t0] h3) (fun v38 h39 =>
 bnd (oBuild [(.int .i64 0), (.str []), .nils, (.int .i64 0), (.int .i64 0), .nils] [(0, 1), (1, 1), (2, 1), (3, 1), (4, 1), (5, 1)] [(0, (.int .i64 4)), (1, v38)]) fun v40 =>
 beff (oStore base 6 h39 v0 v40) fun v41 h42 =>
 bnd (oLoad true 6 h42 v0) fun v43 =>
 rt false base v43 h42)
 (fun v38 h39 => pn false base v38 h39)))))))
 (fun v2 h3 => pn false base v2 h3) := by kernel_rfl
theorem ref03_reader_element_E (t0 t1 : V) (H : Heap) : E n_ref03_reader_element [t0, t1] H = ref03_reader_element H.length t0 t1 H := (EV_at Tryd.func88 (by kernel_rfl) (by kernel_rfl) (by kernel_rfl)).trans (by kernel_rfl)

def internal_strconv_small_c : Code := bodyOf Tryd.f89
def internal_strconv_small_ks : Ks := []
def internal_strconv_small_e (base : Nat) : KC (Out × Heap) := xEnd Tryd.prog D false base 15 Tryd.f89.results.toList
def internal_strconv_small_C (base : Nat) (c : Code) (k : KC (Out × Heap)) (t : Ts) (H : Heap) (d : Ds) : Option (Out × Heap) := xC Tryd.prog base false internal_strconv_small_ks E 15 c k t H d
def internal_strconv_small (base : Nat) (t0 : V) (H : Heap) : Option (Out × Heap) := internal_strconv_small_C base internal_strconv_small_c (internal_strconv_small_e base) [(0, t0)] H []
theorem internal_strconv_small_eq (base : Nat) (t0 : V) (H : Heap) : internal_strconv_small base t0 H =
 bnd (oBin .lss 6 t0 (.int .i64 10)) fun v0 =>
 cnd v0
 (bnd (oBin .add 6 t0 (.int .i64 1)) fun v1 =>
 bnd (oSliceStr (.str [48, 49, 50, 51, 52, 53, 54, 55, 56, 57, 97, 98, 99, 100, 101, 102, 103, 104, 105, 106, 107, 108, 109, 110, 111, 112, 113, 114, 115, 116, 117, 118, 119, 120, 121, 122]) (some t0) (some v1) none) fun v2 =>
 rt false base v2 H)
 (bnd (oBin .mul 6 t0 (.int .i64 2)) fun v3 =>
 bnd (oBin .mul 6 t0 (.int .i64 2)) fun v4 =>
 bnd (oBin .add 6 v4 (.int .i64 2)) fun v5 =>
 bnd (oSliceStr (.str [48, 48, 48, 49, 48, 50, 48, 51, 48, 52, 48, 53, 48, 54, 48, 55, 48, 56, 48, 57, 49, 48, 49, 49, 49, 50, 49, 51, 49, 52, 49, 53, 49, 54, 49, 55, 49, 56, 49, 57, 50, 48, 50, 49, 50, 50, 50, 51, 50, 52, 50, 53, 50, 54, 50, 55, 50, 56, 50, 57, 51, 48, 51, 49, 51, 50, 51, 51, 51, 52, 51, 53, 51, 54, 51, 55, 51, 56, 51, 57, 52, 48, 52, 49, 52, 50, 52, 51, 52, 52, 52, 53, 52, 54, 52, 55, 52, 56, 52, 57, 53, 48, 53, 49, 53, 50, 53, 51, 53, 52, 53, 53, 53, 54, 53, 55, 53, 56, 53, 57, 54, 48, 54, 49, 54, 50, 54, 51, 54, 52, 54, 53, 54, 54, 54, 55, 54, 56, 54, 57, 55, 48, 55, 49, 55, 50, 55, 51, 55, 52, 55, 53, 55, 54, 55, 55, 55, 56, 55, 57, 56, 48, 56, 49, 56, 50, 56, 51, 56, 52, 56, 53, 56, 54, 56, 55, 56, 56, 56, 57, 57, 48, 57, 49, 57, 50, 57, 51, 57, 52, 57, 53, 57, 54, 57, 55, 57, 56, 57, 57]) (some v3) (some v5) none) fun v6 =>
 rt false base v6 H) := by kernel_rfl
theorem internal_strconv_small_E (t0 : V) (H : Heap) : E n_internal_strconv_small [t0] H = internal_strconv_small H.length t0 H := (EV_at Tryd.func89 (by kernel_rfl) (by kernel_rfl) (by kernel_rfl)).trans (by kernel_rfl)

def internal_strconv_numDigits_c : Code := bodyOf Tryd.f90
def internal_strconv_numDigits_ks : Ks := []
def internal_strconv_numDigits_e (base : Nat) : KC (Out × Heap) := xEnd Tryd.prog D false base 15 Tryd.f90.results.toList
def internal_strconv_numDigits_C (base : Nat) (c : Code) (k : KC (Out × Heap)) (t : Ts) (H : Heap) (d : Ds) : Option (Out × Heap) := xC Tryd.prog base false internal_strconv_numDigits_ks E 15 c k t H d
def internal_strconv_numDigits (base : Nat) (t0 : V) (H : Heap) : Option (Out × Heap) := internal_strconv_numDigits_C base internal_strconv_numDigits_c (internal_strconv_numDigits_e base) [(0, t0)] H []
theorem internal_strconv_numDigits_eq (base : Nat) (t0 : V) (H : Heap) : internal_strconv_numDigits base t0 H =
 bcall (E n_math_bits_Len64 [t0] H) (fun v0 h1 =>
 bcall (E n_internal_strconv_log10Pow2 [v0] h1) (fun v2 h3 =>
 bnd (oIndexPtrA 20 1 .junk v2) fun v4 =>
 bnd (oLoad false 1 h3 v4) fun v5 =>
 bnd (oBin .geq 6 t0 v5) fun v6 =>
 bcall (E n_internal_strconv_bool2_int [v6] h3) (fun v7 h8 =>
 bnd (oBin .add 6 v2 v7) fun v9 =>
 rt false base v9 h8)
 (fun v7 h8 => pn false base v7 h8))
 (fun v2 h3 => pn false base v2 h3))
 (fun v0 h1 => pn false base v0 h1) := by kernel_rfl
theorem internal_strconv_numDigits_E (t0 : V) (H : Heap) : E n_internal_strconv_numDigits [t0] H = internal_strconv_numDigits H.length t0 H := (EV_at Tryd.func90 (by kernel_rfl) (by kernel_rfl) (by kernel_rfl)).trans (by kernel_rfl)

def internal_strconv_formatBase10_c : Code := bodyOf Tryd.f91
def internal_strconv_formatBase10_ks : Ks := [(1, [0, 1, 4]), (20, [0, 4, 12]), (25, [0, 4, 12])]
def internal_strconv_formatBase10_e (base : Nat) : KC (Out × Heap) := xEnd Tryd.prog D false base 167 Tryd.f91.results.toList
def internal_strconv_formatBase10_C (base : Nat) (c : Code) (k : KC (Out × Heap)) (t : Ts) (H : Heap) (d : Ds) : Option (Out × Heap) := xC Tryd.prog base false internal_strconv_formatBase10_ks E 167 c k t H d
def internal_strconv_formatBase10_l1 (base : Nat) (t0 t1 t4 : V) (H : Heap) : Option (Out × Heap) :=
iterL (fun t H d again => internal_strconv_formatBase10_C base (cAt [1, 0, 0, 0] internal_strconv_formatBase10_c) (loopK internal_strconv_formatBase10_ks (cAt [1, 0, 0, 0] internal_strconv_formatBase10_c) again ((blockK 0 ((seqK (fun _ t => internal_strconv_formatBase10_C base (cAt [1, 1] internal_strconv_formatBase10_c) (internal_strconv_formatBase10_e base) (trimA internal_strconv_formatBase10_ks (cAt [1, 1] internal_strconv_formatBase10_c) t)) (internal_strconv_formatBase10_e base)))))) t H d) [(0, t0), (1, t1), (4, t4)] H []
def internal_strconv_formatBase10_j3 (base : Nat) (t0 t4 t12 : V) (H : Heap) : Option (Out × Heap) :=
internal_strconv_formatBase10_C base (cAt [1, 1, 1, 1, 1] internal_strconv_formatBase10_c) (internal_strconv_formatBase10_e base) [(0, t0), (4, t4), (12, t12)] H []
theorem internal_strconv_formatBase10_j3_eq (base : Nat) (t0 t4 t12 : V) (H : Heap) : internal_strconv_formatBase10_j3 base t0 t4 t12 H =
 bnd (oBin .gtr 6 t4 (.int .i64 0)) fun v107 =>
 cnd v107
 (bnd (oBin .add 6 (.int .u32 48) t12) fun v108 =>
 bnd (oIntTo .u8 v108) fun v109 =>
 bnd (oIndexPtr 1 t0 (.int .i64 0)) fun v110 =>
 beff (oStore base 1 H v110 v109) fun v111 h112 =>
 rt false base (.tup []) h112)
 (rt false base (.tup []) H) := by kernel_rfl
def internal_strconv_formatBase10_j2 (base : Nat) (t0 t4 t12 : V) (H : Heap) : Option (Out × Heap) :=
internal_strconv_formatBase10_C base (cAt [1, 1, 1, 1] internal_strconv_formatBase10_c) (internal_strconv_formatBase10_e base) [(0, t0), (4, t4), (12, t12)] H []
theorem internal_strconv_formatBase10_j2_eq (base : Nat) (t0 t4 t12 : V) (H : Heap) : internal_strconv_formatBase10_j2 base t0 t4 t12 H =
 bnd (oBin .geq 6 t4 (.int .i64 2)) fun v91 =>
 cnd v91
 (bnd (oBin .rem 6 t12 (.int .u32 100)) fun v92 =>
 bnd (oBin .mul 6 v92 (.int .u32 2)) fun v93 =>
 bnd (oBin .quo 6 t12 (.int .u32 100)) fun v94 =>
 bnd (oBin .sub 6 t4 (.int .i64 1)) fun v95 =>
 bnd (oBin .sub 6 t4 (.int .i64 2)) fun v96 =>
 bnd (oBin .add 6 v93 (.int .u32 1)) fun v97 =>
 bnd (oIndexStr (.str [48, 48, 48, 49, 48, 50, 48, 51, 48, 52, 48, 53, 48, 54, 48, 55, 48, 56, 48, 57, 49, 48, 49, 49, 49, 50, 49, 51, 49, 52, 49, 53, 49, 54, 49, 55, 49, 56, 49, 57, 50, 48, 50, 49, 50, 50, 50, 51, 50, 52, 50, 53, 50, 54, 50, 55, 50, 56, 50, 57, 51, 48, 51, 49, 51, 50, 51, 51, 51, 52, 51, 53, 51, 54, 51, 55, 51, 56, 51, 57, 52, 48, 52, 49, 52, 50, 52, 51, 52, 52, 52, 53, 52, 54, 52, 55, 52, 56, 52, 57, 53, 48, 53, 49, 53, 50, 53, 51, 53, 52, 53, 53, 53, 54, 53, 55, 53, 56, 53, 57, 54, 48, 54, 49, 54, 50, 54, 51, 54, 52, 54, 53, 54, 54, 54, 55, 54, 56, 54, 57, 55, 48, 55, 49, 55, 50, 55, 51, 55, 52, 55, 53, 55, 54, 55, 55, 55, 56, 55, 57, 56, 48, 56, 49, 56, 50, 56, 51, 56, 52, 56, 53, 56, 54, 56, 55, 56, 56, 56, 57, 57, 48, 57, 49, 57, 50, 57, 51, 57, 52, 57, 53, 57, 54, 57, 55, 57, 56, 57, 57]) v97) fun v98 =>
 bnd (oIndexStr (.str [48, 48, 48, 49, 48, 50, 48, 51, 48, 52, 48, 53, 48, 54, 48, 55, 48, 56, 48, 57, 49, 48, 49, 49, 49, 50, 49, 51, 49, 52, 49, 53, 49, 54, 49, 55, 49, 56, 49, 57, 50, 48, 50, 49, 50, 50, 50, 51, 50, 52, 50, 53, 50, 54, 50, 55, 50, 56, 50, 57, 51, 48, 51, 49, 51, 50, 51, 51, 51, 52, 51, 53, 51, 54, 51, 55, 51, 56, 51, 57, 52, 48, 52, 49, 52, 50, 52, 51, 52, 52, 52, 53, 52, 54, 52, 55, 52, 56, 52, 57, 53, 48, 53, 49, 53, 50, 53, 51, 53, 52, 53, 53, 53, 54, 53, 55, 53, 56, 53, 57, 54, 48, 54, 49, 54, 50, 54, 51, 54, 52, 54, 53, 54, 54, 54, 55, 54, 56, 54, 57, 55, 48, 55, 49, 55, 50, 55, 51, 55, 52, 55, 53, 55, 54, 55, 55, 55, 56, 55, 57, 56, 48, 56, 49, 56, 50, 56, 51, 56, 52, 56, 53, 56, 54, 56, 55, 56, 56, 56, 57, 57, 48, 57, 49, 57, 50, 57, 51, 57, 52, 57, 53, 57, 54, 57, 55, 57, 56, 57, 57]) v93) fun v99 =>
 bnd (oIndexPtr 1 t0 v95) fun v100 =>
 beff (oStore base 1 H v100 v98) fun v101 h102 =>
 bnd (oIndexPtr 1 t0 v96) fun v103 =>
 beff (oStore base 1 h102 v103 v99) fun v104 h105 =>
 bnd (oBin .sub 6 t4 (.int .i64 2)) fun v106 =>
 internal_strconv_formatBase10_j3 base t0 v106 v94 h105)
 (internal_strconv_formatBase10_j3 base t0 t4 t12 H) := by kernel_rfl
theorem internal_strconv_formatBase10_l1_eq (base : Nat) (t0 t1 t4 : V) (H : Heap) : internal_strconv_formatBase10_l1 base t0 t1 t4 H =
 bnd (oBin .geq 6 t4 (.int .i64 8)) fun v1 =>
 cnd v1
 (bnd (oBin .rem 6 t1 (.int .u64 100000000)) fun v2 =>
 bnd (oIntTo .u32 v2) fun v3 =>
 bnd (oBin .quo 6 t1 (.int .u64 100000000)) fun v4 =>
 bnd (oBin .quo 6 v3 (.int .u32 10000)) fun v5 =>
 bnd (oBin .rem 6 v3 (.int .u32 10000)) fun v6 =>
 bnd (oBin .quo 6 v6 (.int .u32 100)) fun v7 =>
 bnd (oBin .mul 6 v7 (.int .u32 2)) fun v8 =>
 bnd (oBin .rem 6 v6 (.int .u32 100)) fun v9 =>
 bnd (oBin .mul 6 v9 (.int .u32 2)) fun v10 =>
 bnd (oBin .quo 6 v5 (.int .u32 100)) fun v11 =>
 bnd (oBin .mul 6 v11 (.int .u32 2)) fun v12 =>
 bnd (oBin .rem 6 v5 (.int .u32 100)) fun v13 =>
 bnd (oBin .mul 6 v13 (.int .u32 2)) fun v14 =>
 bnd (oBin .sub 6 t4 (.int .i64 1)) fun v15 =>
 bnd (oBin .sub 6 t4 (.int .i64 2)) fun v16 =>
 bnd (oBin .add 6 v10 (.int .u32 1)) fun v17 =>
 bnd (oIndexStr (.str [48, 48, 48, 49, 48, 50, 48, 51, 48, 52, 48, 53, 48, 54, 48, 55, 48, 56, 48, 57, 49, 48, 49, 49, 49, 50, 49, 51, 49, 52, 49, 53, 49, 54, 49, 55, 49, 56, 49, 57, 50, 48, 50, 49, 50, 50, 50, 51, 50, 52, 50, 53, 50, 54, 50, 55, 50, 56, 50, 57, 51, 48, 51, 49, 51, 50, 51, 51, 51, 52, 51, 53, 51, 54, 51, 55, 51, 56, 51, 57, 52, 48, 52, 49, 52, 50, 52, 51, 52, 52, 52, 53, 52, 54, 52, 55, 52, 56, 52, 57, 53, 48, 53, 49, 53, 50, 53, 51, 53, 52, 53, 53, 53, 54, 53, 55, 53, 56, 53, 57, 54, 48, 54, 49, 54, 50, 54, 51, 54, 52, 54, 53, 54, 54, 54, 55, 54, 56, 54, 57, 55, 48, 55, 49, 55, 50, 55, 51, 55, 52, 55, 53, 55, 54, 55, 55, 55, 56, 55, 57, 56, 48, 56, 49, 56, 50, 56, 51, 56, 52, 56, 53, 56, 54, 56, 55, 56, 56, 56, 57, 57, 48, 57, 49, 57, 50, 57, 51, 57, 52, 57, 53, 57, 54, 57, 55, 57, 56, 57, 57]) v17) fun v18 =>
 bnd (oIndexStr (.str [48, 48, 48, 49, 48, 50, 48, 51, 48, 52, 48, 53, 48, 54, 48, 55, 48, 56, 48, 57, 49, 48, 49, 49, 49, 50, 49, 51, 49, 52, 49, 53, 49, 54, 49, 55, 49, 56, 49, 57, 50, 48, 50, 49, 50, 50, 50, 51, 50, 52, 50, 53, 50, 54, 50, 55, 50, 56, 50, 57, 51, 48, 51, 49, 51, 50, 51, 51, 51, 52, 51, 53, 51, 54, 51, 55, 51, 56, 51, 57, 52, 48, 52, 49, 52, 50, 52, 51, 52, 52, 52, 53, 52, 54, 52, 55, 52, 56, 52, 57, 53, 48, 53, 49, 53, 50, 53, 51, 53, 52, 53, 53, 53, 54, 53, 55, 53, 56, 53, 57, 54, 48, 54, 49, 54, 50, 54, 51, 54, 52, 54, 53, 54, 54, 54, 55, 54, 56, 54, 57, 55, 48, 55, 49, 55, 50, 55, 51, 55, 52, 55, 53, 55, 54, 55, 55, 55, 56, 55, 57, 56, 48, 56, 49, 56, 50, 56, 51, 56, 52, 56, 53, 56, 54, 56, 55, 56, 56, 56, 57, 57, 48, 57, 49, 57, 50, 57, 51, 57, 52, 57, 53, 57, 54, 57, 55, 57, 56, 57, 57]) v10) fun v19 =>
 bnd (oIndexPtr 1 t0 v15) fun v20 =>
 beff (oStore base 1 H v20 v18) fun v21 h22 =>
 bnd (oIndexPtr 1 t0 v16) fun v23 =>
 beff (oStore base 1 h22 v23 v19) fun v24 h25 =>
 bnd (oBin .sub 6 t4 (.int .i64 3)) fun v26 =>
 bnd (oBin .sub 6 t4 (.int .i64 4)) fun v27 =>
 bnd (oBin .add 6 v8 (.int .u32 1)) fun v28 =>
 bnd (oIndexStr (.str [48, 48, 48, 49, 48, 50, 48, 51, 48, 52, 48, 53, 48, 54, 48, 55, 48, 56, 48, 57, 49, 48, 49, 49, 49, 50, 49, 51, 49, 52, 49, 53, 49, 54, 49, 55, 49, 56, 49, 57, 50, 48, 50, 49, 50, 50, 50, 51, 50, 52, 50, 53, 50, 54, 50, 55, 50, 56, 50, 57, 51, 48, 51, 49, 51, 50, 51, 51, 51, 52, 51, 53, 51, 54, 51, 55, 51, 56, 51, 57, 52, 48, 52, 49, 52, 50, 52, 51, 52, 52, 52, 53, 52, 54, 52, 55, 52, 56, 52, 57, 53, 48, 53, 49, 53, 50, 53, 51, 53, 52, 53, 53, 53, 54, 53, 55, 53, 56, 53, 57, 54, 48, 54, 49, 54, 50, 54, 51, 54, 52, 54, 53, 54, 54, 54, 55, 54, 56, 54, 57, 55, 48, 55, 49, 55, 50, 55, 51, 55, 52, 55, 53, 55, 54, 55, 55, 55, 56, 55, 57, 56, 48, 56, 49, 56, 50, 56, 51, 56, 52, 56, 53, 56, 54, 56, 55, 56, 56, 56, 57, 57, 48, 57, 49, 57, 50, 57, 51, 57, 52, 57, 53, 57, 54, 57, 55, 57, 56, 57, 57]) v28) fun v29 =>
 bnd (oIndexStr (.str [48, 48, 48, 49, 48, 50, 48, 51, 48, 52, 48, 53, 48, 54, 48, 55, 48, 56, 48, 57, 49, 48, 49, 49, 49, 50, 49, 51, 49, 52, 49, 53, 49, 54, 49, 55, 49, 56, 49, 57, 50, 48, 50, 49, 50, 50, 50, 51, 50, 52, 50, 53, 50, 54, 50, 55, 50, 56, 50, 57, 51, 48, 51, 49, 51, 50, 51, 51, 51, 52, 51, 53, 51, 54, 51, 55, 51, 56, 51, 57, 52, 48, 52, 49, 52, 50, 52, 51, 52, 52, 52, 53, 52, 54, 52, 55, 52, 56, 52, 57, 53, 48, 53, 49, 53, 50, 53, 51, 53, 52, 53, 53, 53, 54, 53, 55, 53, 56, 53, 57, 54, 48, 54, 49, 54, 50, 54, 51, 54, 52, 54, 53, 54, 54, 54, 55, 54, 56, 54, 57, 55, 48, 55, 49, 55, 50, 55, 51, 55, 52, 55, 53, 55, 54, 55, 55, 55, 56, 55, 57, 56, 48, 56, 49, 56, 50, 56, 51, 56, 52, 56, 53, 56, 54, 56, 55, 56, 56, 56, 57, 57, 48, 57, 49, 57, 50, 57, 51, 57, 52, 57, 53, 57, 54, 57, 55, 57, 56, 57, 57]) v8) fun v30 =>
 bnd (oIndexPtr 1 t0 v26) fun v31 =>
 beff (oStore base 1 h25 v31 v29) fun v32 h33 =>
 bnd (oIndexPtr 1 t0 v27) fun v34 =>
 beff (oStore base 1 h33 v34 v30) fun v35 h36 =>
 bnd (oBin .sub 6 t4 (.int .i64 5)) fun v37 =>
 bnd (oBin .sub 6 t4 (.int .i64 6)) fun v38 =>
 bnd (oBin .add 6 v14 (.int .u32 1)) fun v39 =>
 bnd (oIndexStr (.str [48, 48, 48, 49, 48, 50, 48, 51, 48, 52, 48, 53, 48, 54, 48, 55, 48, 56, 48, 57, 49, 48, 49, 49, 49, 50, 49, 51, 49, 52, 49, 53, 49, 54, 49, 55, 49, 56, 49, 57, 50, 48, 50, 49, 50, 50, 50, 51, 50, 52, 50, 53, 50, 54, 50, 55, 50, 56, 50, 57, 51, 48, 51, 49, 51, 50, 51, 51, 51, 52, 51, 53, 51, 54, 51, 55, 51, 56, 51, 57, 52, 48, 52, 49, 52, 50, 52, 51, 52, 52, 52, 53, 52, 54, 52, 55, 52, 56, 52, 57, 53, 48, 53, 49, 53, 50, 53, 51, 53, 52, 53, 53, 53, 54, 53, 55, 53, 56, 53, 57, 54, 48, 54, 49, 54, 50, 54, 51, 54, 52, 54, 53, 54, 54, 54, 55, 54, 56, 54, 57, 55, 48, 55, 49, 55, 50, 55, 51, 55, 52, 55, 53, 55, 54, 55, 55, 55, 56, 55, 57, 56, 48, 56, 49, 56, 50, 56, 51, 56, 52, 56, 53, 56, 54, 56, 55, 56, 56, 56, 57, 57, 48, 57, 49, 57, 50, 57, 51, 57, 52, 57, 53, 57, 54, 57, 55, 57, 56, 57, 57]) v39) fun v40 =>
 bnd (oIndexStr (.str [48, 48, 48, 49, 48, 50, 48, 51, 48, 52, 48, 53, 48, 54, 48, 55, 48, 56, 48, 57, 49, 48, 49, 49, 49, 50, 49, 51, 49, 52, 49, 53, 49, 54, 49, 55, 49, 56, 49, 57, 50, 48, 50, 49, 50, 50, 50, 51, 50, 52, 50, 53, 50, 54, 50, 55, 50, 56, 50, 57, 51, 48, 51, 49, 51, 50, 51, 51, 51, 52, 51, 53, 51, 54, 51, 55, 51, 56, 51, 57, 52, 48, 52, 49, 52, 50, 52, 51, 52, 52, 52, 53, 52, 54, 52, 55, 52, 56, 52, 57, 53, 48, 53, 49, 53, 50, 53, 51, 53, 52, 53, 53, 53, 54, 53, 55, 53, 56, 53, 57, 54, 48, 54, 49, 54, 50, 54, 51, 54, 52, 54, 53, 54, 54, 54, 55, 54, 56, 54, 57, 55, 48, 55, 49, 55, 50, 55, 51, 55, 52, 55, 53, 55, 54, 55, 55, 55, 56, 55, 57, 56, 48, 56, 49, 56, 50, 56, 51, 56, 52, 56, 53, 56, 54, 56, 55, 56, 56, 56, 57, 57, 48, 57, 49, 57, 50, 57, 51, 57, 52, 57, 53, 57, 54, 57, 55, 57, 56, 57, 57]) v14) fun v41 =>
 bnd (oIndexPtr 1 t0 v37) fun v42 =>
 beff (oStore base 1 h36 v42 v40) fun v43 h44 =>
 bnd (oIndexPtr 1 t0 v38) fun v45 =>
 beff (oStore base 1 h44 v45 v41) fun v46 h47 =>
 bnd (oBin .sub 6 t4 (.int .i64 7)) fun v48 =>
 bnd (oBin .sub 6 t4 (.int .i64 8)) fun v49 =>
 bnd (oBin .add 6 v12 (.int .u32 1)) fun v50 =>
 bnd (oIndexStr (.str [48, 48, 48, 49, 48, 50, 48, 51, 48, 52, 48, 53, 48, 54, 48, 55, 48, 56, 48, 57, 49, 48, 49, 49, 49, 50, 49, 51, 49, 52, 49, 53, 49, 54, 49, 55, 49, 56, 49, 57, 50, 48, 50, 49, 50, 50, 50, 51, 50, 52, 50, 53, 50, 54, 50, 55, 50, 56, 50, 57, 51, 48, 51, 49, 51, 50, 51, 51, 51, 52, 51, 53, 51, 54, 51, 55, 51, 56, 51, 57, 52, 48, 52, 49, 52, 50, 52, 51, 52, 52, 52, 53, 52, 54, 52, 55, 52, 56, 52, 57, 53, 48, 53, 49, 53, 50, 53, 51, 53, 52, 53, 53, 53, 54, 53, 55, 53, 56, 53, 57, 54, 48, 54, 49, 54, 50, 54, 51, 54, 52, 54, 53, 54, 54, 54, 55, 54, 56, 54, 57, 55, 48, 55, 49, 55, 50, 55, 51, 55, 52, 55, 53, 55, 54, 55, 55, 55, 56, 55, 57, 56, 48, 56, 49, 56, 50, 56, 51, 56, 52, 56, 53, 56, 54, 56, 55, 56, 56, 56, 57, 57, 48, 57, 49, 57, 50, 57, 51, 57, 52, 57, 53, 57, 54, 57, 55, 57, 56, 57, 57]) v50) fun v51 =>
 bnd (oIndexStr (.str [48, 48, 48, 49, 48, 50, 48, 51, 48, 52, 48, 53, 48, 54, 48, 55, 48, 56, 48, 57, 49, 48, 49, 49, 49, 50, 49, 51, 49, 52, 49, 53, 49, 54, 49, 55, 49, 56, 49, 57, 50, 48, 50, 49, 50, 50, 50, 51, 50, 52, 50, 53, 50, 54, 50, 55, 50, 56, 50, 57, 51, 48, 51, 49, 51, 50, 51, 51, 51, 52, 51, 53, 51, 54, 51, 55, 51, 56, 51, 57, 52, 48, 52, 49, 52, 50, 52, 51, 52, 52, 52, 53, 52, 54, 52, 55, 52, 56, 52, 57, 53, 48, 53, 49, 53, 50, 53, 51, 53, 52, 53, 53, 53, 54, 53, 55, 53, 56, 53, 57, 54, 48, 54, 49, 54, 50, 54, 51, 54, 52, 54, 53, 54, 54, 54, 55, 54, 56, 54, 57, 55, 48, 55, 49, 55, 50, 55, 51, 55, 52, 55, 53, 55, 54, 55, 55, 55, 56, 55, 57, 56, 48, 56, 49, 56, 50, 56, 51, 56, 52, 56, 53, 56, 54, 56, 55, 56, 56, 56, 57, 57, 48, 57, 49, 57, 50, 57, 51, 57, 52, 57, 53, 57, 54, 57, 55, 57, 56, 57, 57]) v12) fun v52 =>
 bnd (oIndexPtr 1 t0 v48) fun v53 =>
 beff (oStore base 1 h47 v53 v51) fun v54 h55 =>
 bnd (oIndexPtr 1 t0 v49) fun v56 =>
 beff (oStore base 1 h55 v56 v52) fun v57 h58 =>
 bnd (oBin .sub 6 t4 (.int .i64 8)) fun v59 =>
 internal_strconv_formatBase10_l1 base t0 v4 v59 h58)
 (bnd (oIntTo .u32 t1) fun v60 =>
 bnd (oBin .geq 6 t4 (.int .i64 4)) fun v61 =>
 cnd v61
 (bnd (oBin .rem 6 v60 (.int .u32 10000)) fun v62 =>
 bnd (oBin .quo 6 v60 (.int .u32 10000)) fun v63 =>
 bnd (oBin .quo 6 v62 (.int .u32 100)) fun v64 =>
 bnd (oBin .mul 6 v64 (.int .u32 2)) fun v65 =>
 bnd (oBin .rem 6 v62 (.int .u32 100)) fun v66 =>
 bnd (oBin .mul 6 v66 (.int .u32 2)) fun v67 =>
 bnd (oBin .sub 6 t4 (.int .i64 1)) fun v68 =>
 bnd (oBin .sub 6 t4 (.int .i64 2)) fun v69 =>
 bnd (oBin .add 6 v67 (.int .u32 1)) fun v70 =>
 bnd (oIndexStr (.str [48, 48, 48, 49, 48, 50, 48, 51, 48, 52, 48, 53, 48, 54, 48, 55, 48, 56, 48, 57, 49, 48, 49, 49, 49, 50, 49, 51, 49, 52, 49, 53, 49, 54, 49, 55, 49, 56, 49, 57, 50, 48, 50, 49, 50, 50, 50, 51, 50, 52, 50, 53, 50, 54, 50, 55, 50, 56, 50, 57, 51, 48, 51, 49, 51, 50, 51, 51, 51, 52, 51, 53, 51, 54, 51, 55, 51, 56, 51, 57, 52, 48, 52, 49, 52, 50, 52, 51, 52, 52, 52, 53, 52, 54, 52, 55, 52, 56, 52, 57, 53, 48, 53, 49, 53, 50, 53, 51, 53, 52, 53, 53, 53, 54, 53, 55, 53, 56, 53, 57, 54, 48, 54, 49, 54, 50, 54, 51, 54, 52, 54, 53, 54, 54, 54, 55, 54, 56, 54, 57, 55, 48, 55, 49, 55, 50, 55, 51, 55, 52, 55, 53, 55, 54, 55, 55, 55, 56, 55, 57, 56, 48, 56, 49, 56, 50, 56, 51, 56, 52, 56, 53, 56, 54, 56, 55, 56, 56, 56, 57, 57, 48, 57, 49, 57, 50, 57, 51, 57, 52, 57, 53, 57, 54, 57, 55, 57, 56, 57, 57]) v70) fun v71 =>
 bnd (oIndexStr (.str [48, 48, 48, 49, 48, 50, 48, 51, 48, 52, 48, 53, 48, 54, 48, 55, 48, 56, 48, 57, 49, 48, 49, 49, 49, 50, 49, 51, 49, 52, 49, 53, 49, 54, 49, 55, 49, 56, 49, 57, 50, 48, 50, 49, 50, 50, 50, 51, 50, 52, 50, 53, 50, 54, 50, 55, 50, 56, 50, 57, 51, 48, 51, 49, 51, 50, 51, 51, 51, 52, 51, 53, 51, 54, 51, 55, 51, 56, 51, 57, 52, 48, 52, 49, 52, 50, 52, 51, 52, 52, 52, 53, 52, 54, 52, 55, 52, 56, 52, 57, 53, 48, 53, 49, 53, 50, 53, 51, 53, 52, 53, 53, 53, 54, 53, 55, 53, 56, 53, 57, 54, 48, 54, 49, 54, 50, 54, 51, 54, 52, 54, 53, 54, 54, 54, 55, 54, 56, 54, 57, 55, 48, 55, 49, 55, 50, 55, 51, 55, 52, 55, 53, 55, 54, 55, 55, 55, 56, 55, 57, 56, 48, 56, 49, 56, 50, 56, 51, 56, 52, 56, 53, 56, 54, 56, 55, 56, 56, 56, 57, 57, 48, 57, 49, 57, 50, 57, 51, 57, 52, 57, 53, 57, 54, 57, 55, 57, 56, 57, 57]) v67) fun v72 =>
 bnd (oIndexPtr 1 t0 v68) fun v73 =>
 beff (oStore base 1 H v73 v71) fun v74 h75 =>
 bnd (oIndexPtr 1 t0 v69) fun v76 =>
 beff (oStore base 1 h75 v76 v72) fun v77 h78 =>
 bnd (oBin .sub 6 t4 (.int .i64 3)) fun v79 =>
 bnd (oBin .sub 6 t4 (.int .i64 4)) fun v80 =>
 bnd (oBin .add 6 v65 (.int .u32 1)) fun v81 =>
 bnd (oIndexStr (.str [48, 48, 48, 49, 48, 50, 48, 51, 48, 52, 48, 53, 48, 54, 48, 55, 48, 56, 48, 57, 49, 48, 49, 49, 49, 50, 49, 51, 49, 52, 49, 53, 49, 54, 49, 55, 49, 56, 49, 57, 50, 48, 50, 49, 50, 50, 50, 51, 50, 52, 50, 53, 50, 54, 50, 55, 50, 56, 50, 57, 51, 48, 51, 49, 51, 50, 51, 51, 51, 52, 51, 53, 51, 54, 51, 55, 51, 56, 51, 57, 52, 48, 52, 49, 52, 50, 52, 51, 52, 52, 52, 53, 52, 54, 52, 55, 52, 56, 52, 57, 53, 48, 53, 49, 53, 50, 53, 51, 53, 52, 53, 53, 53, 54, 53, 55, 53, 56, 53, 57, 54, 48, 54, 49, 54, 50, 54, 51, 54, 52, 54, 53, 54, 54, 54, 55, 54, 56, 54, 57, 55, 48, 55, 49, 55, 50, 55, 51, 55, 52, 55, 53, 55, 54, 55, 55, 55, 56, 55, 57, 56, 48, 56, 49, 56, 50, 56, 51, 56, 52, 56, 53, 56, 54, 56, 55, 56, 56, 56, 57, 57, 48, 57, 49, 57, 50, 57, 51, 57, 52, 57, 53, 57, 54, 57, 55, 57, 56, 57, 57]) v81) fun v82 =>
 bnd (oIndexStr (.str [48, 48, 48, 49, 48, 50, 48, 51, 48, 52, 48, 53, 48, 54, 48, 55, 48, 56, 48, 57, 49, 48, 49, 49, 49, 50, 49, 51, 49, 52, 49, 53, 49, 54, 49, 55, 49, 56, 49, 57, 50, 48, 50, 49, 50, 50, 50, 51, 50, 52, 50, 53, 50, 54, 50, 55, 50, 56, 50, 57, 51, 48, 51, 49, 51, 50, 51, 51, 51, 52, 51, 53, 51, 54, 51, 55, 51, 56, 51, 57, 52, 48, 52, 49, 52, 50, 52, 51, 52, 52, 52, 53, 52, 54, 52, 55, 52, 56, 52, 57, 53, 48, 53, 49, 53, 50, 53, 51, 53, 52, 53, 53, 53, 54, 53, 55, 53, 56, 53, 57, 54, 48, 54, 49, 54, 50, 54, 51, 54, 52, 54, 53, 54, 54, 54, 55, 54, 56, 54, 57, 55, 48, 55, 49, 55, 50, 55, 51, 55, 52, 55, 53, 55, 54, 55, 55, 55, 56, 55, 57, 56, 48, 56, 49, 56, 50, 56, 51, 56, 52, 56, 53, 56, 54, 56, 55, 56, 56, 56, 57, 57, 48, 57, 49, 57, 50, 57, 51, 57, 52, 57, 53, 57, 54, 57, 55, 57, 56, 57, 57]) v65) fun v83 =>
 bnd (oIndexPtr 1 t0 v79) fun v84 =>
 beff (oStore base 1 h78 v84 v82) fun v85 h86 =>
 bnd (oIndexPtr 1 t0 v80) fun v87 =>
 beff (oStore base 1 h86 v87 v83) fun v88 h89 =>
 bnd (oBin .sub 6 t4 (.int .i64 4)) fun v90 =>
 internal_strconv_formatBase10_j2 base t0 v90 v63 h89)
 (internal_strconv_formatBase10_j2 base t0 t4 v60 H)) := (loop_eq (cAt [1, 0, 0, 0] internal_strconv_formatBase10_c) ((blockK 0 ((seqK (fun _ t => internal_strconv_formatBase10_C base (cAt [1, 1] internal_strconv_formatBase10_c) (internal_strconv_formatBase10_e base) (trimA internal_strconv_formatBase10_ks (cAt [1, 1] internal_strconv_formatBase10_c) t)) (internal_strconv_formatBase10_e base))))) _ H []).trans (by kernel_rfl)
def internal_strconv_formatBase10 (base : Nat) (t0 t1 : V) (H : Heap) : Option (Out × Heap) := internal_strconv_formatBase10_C base internal_strconv_formatBase10_c (internal_strconv_formatBase10_e base) [(0, t0), (1, t1)] H []
theorem internal_strconv_formatBase10_eq (base : Nat) (t0 t1 : V) (H : Heap) : internal_strconv_formatBase10 base t0 t1 H =
 bnd (oLenSl t0) fun v0 =>
 internal_strconv_formatBase10_l1 base t0 t1 v0 H := by kernel_rfl
theorem internal_strconv_formatBase10_E (t0 t1 : V) (H : Heap) : E n_internal_strconv_formatBase10 [t0, t1] H = internal_strconv_formatBase10 H.length t0 t1 H := (EV_at Tryd.func91 (by kernel_rfl) (by kernel_rfl) (by kernel_rfl)).trans (by kernel_rfl)

def internal_strconv_formatBits_c : Code := bodyOf Tryd.f92
def internal_strconv_formatBits_ks : Ks := [(3, [0, 1, 2, 3, 4, 10, 11]), (7, [0, 1, 2, 3, 4, 10, 11, 12, 13]), (11, [0, 1, 3, 4, 10, 11, 12, 13, 14, 15, 16]), (18, [0, 1, 3, 4, 10, 11, 12, 13, 17]), (25, [0, 3, 4, 10, 11, 12, 13]), (28, [0, 4, 10, 11, 12, 13])]
def internal_strconv_formatBits_e (base : Nat) : KC (Out × Heap) := xEnd Tryd.prog D false base 102 Tryd.f92.results.toList
def internal_strconv_formatBits_C (base : Nat) (c : Code) (k : KC (Out × Heap)) (t : Ts) (H : Heap) (d : Ds) : Option (Out × Heap) := xC Tryd.prog base false internal_strconv_formatBits_ks E 102 c k t H d
def internal_strconv_formatBits_l3 (base : Nat) (t0 t1 t3 t4 t10 t11 t12 t13 t14 t15 t16 : V) (H : Heap) : Option (Out × Heap) :=
iterL (fun t H d again => internal_strconv_formatBits_C base (cAt [1, 1, 1, 1, 1, 0, 1, 0, 1, 1, 1, 0, 0, 0] internal_strconv_formatBits_c) (loopK internal_strconv_formatBits_ks (cAt [1, 1, 1, 1, 1, 0, 1, 0, 1, 1, 1, 0, 0, 0] internal_strconv_formatBits_c) again ((blockK 0 ((seqK (fun _ t => internal_strconv_formatBits_C base (cAt [1, 1, 1, 1, 1, 0, 1, 0, 1, 1, 1, 1] internal_strconv_formatBits_c) ((seqK (fun _ t => internal_strconv_formatBits_C base (cAt [1, 1, 1, 1, 1, 1] internal_strconv_formatBits_c) (internal_strconv_formatBits_e base) (trimA internal_strconv_formatBits_ks (cAt [1, 1, 1, 1, 1, 1] internal_strconv_formatBits_c) t)) (internal_strconv_formatBits_e base))) (trimA internal_strconv_formatBits_ks (cAt [1, 1, 1, 1, 1, 0, 1, 0, 1, 1, 1, 1] internal_strconv_formatBits_c) t)) ((seqK (fun _ t => internal_strconv_formatBits_C base (cAt [1, 1, 1, 1, 1, 1] internal_strconv_formatBits_c) (internal_strconv_formatBits_e base) (trimA internal_strconv_formatBits_ks (cAt [1, 1, 1, 1, 1, 1] internal_strconv_formatBits_c) t)) (internal_strconv_formatBits_e base)))))))) t H d) [(0, t0), (1, t1), (3, t3), (4, t4), (10, t10), (11, t11), (12, t12), (13, t13), (14, t14), (15, t15), (16, t16)] H []
def internal_strconv_formatBits_j5 (base : Nat) (t0 t4 t10 t11 t12 t13 : V) (H : Heap) : Option (Out × Heap) :=
internal_strconv_formatBits_C base (cAt [1, 1, 1, 1, 1, 1, 1] internal_strconv_formatBits_c) (internal_strconv_formatBits_e base) [(0, t0), (4, t4), (10, t10), (11, t11), (12, t12), (13, t13)] H []
theorem internal_strconv_formatBits_j5_eq (base : Nat) (t0 t4 t10 t11 t12 t13 : V) (H : Heap) : internal_strconv_formatBits_j5 base t0 t4 t10 t11 t12 t13 H =
 cnd t4
 (beff (oSliceA 1 65 false t12 (some t13) none none H) fun v38 h39 =>
 beff (oAppend base 1 1 false t0 v38 h39) fun v40 h41 =>
 rt false base (.tup [v40, t11]) h41)
 (beff (oSliceA 1 65 false t12 (some t13) none none H) fun v42 h43 =>
 bnd (oText h43 v42) fun v44 =>
 rt false base (.tup [t10, v44]) h43) := by kernel_rfl
def internal_strconv_formatBits_j4 (base : Nat) (t0 t3 t4 t10 t11 t12 t13 : V) (H : Heap) : Option (Out × Heap) :=
internal_strconv_formatBits_C base (cAt [1, 1, 1, 1, 1, 1] internal_strconv_formatBits_c) (internal_strconv_formatBits_e base) [(0, t0), (3, t3), (4, t4), (10, t10), (11, t11), (12, t12), (13, t13)] H []
theorem internal_strconv_formatBits_j4_eq (base : Nat) (t0 t3 t4 t10 t11 t12 t13 : V) (H : Heap) : internal_strconv_formatBits_j4 base t0 t3 t4 t10 t11 t12 t13 H =
 cnd t3
 (bnd (oBin .sub 6 t13 (.int .i64 1)) fun v34 =>
 bnd (oIndexPtrA 65 1 t12 v34) fun v35 =>
 beff (oStore base 1 H v35 (.int .u8 45)) fun v36 h37 =>
 internal_strconv_formatBits_j5 base t0 t4 t10 t11 t12 v34 h37)
 (internal_strconv_formatBits_j5 base t0 t4 t10 t11 t12 t13 H) := by kernel_rfl
theorem internal_strconv_formatBits_l3_eq (base : Nat) (t0 t1 t3 t4 t10 t11 t12 t13 t14 t15 t16 : V) (H : Heap) : internal_strconv_formatBits_l3 base t0 t1 t3 t4 t10 t11 t12 t13 t14 t15 t16 H =
 bnd (oBin .geq 6 t1 t15) fun v21 =>
 cnd v21
 (bnd (oBin .sub 6 t13 (.int .i64 1)) fun v22 =>
 bnd (oBin .and 6 t1 t16) fun v23 =>
 bnd (oIndexStr (.str [48, 49, 50, 51, 52, 53, 54, 55, 56, 57, 97, 98, 99, 100, 101, 102, 103, 104, 105, 106, 107, 108, 109, 110, 111, 112, 113, 114, 115, 116, 117, 118, 119, 120, 121, 122]) v23) fun v24 =>
 bnd (oIndexPtrA 65 1 t12 v22) fun v25 =>
 beff (oStore base 1 H v25 v24) fun v26 h27 =>
 bnd (oBin .shr 6 t1 t14) fun v28 =>
 internal_strconv_formatBits_l3 base t0 v28 t3 t4 t10 t11 t12 v22 t14 t15 t16 h27)
 (bnd (oBin .sub 6 t13 (.int .i64 1)) fun v29 =>
 bnd (oIndexStr (.str [48, 49, 50, 51, 52, 53, 54, 55, 56, 57, 97, 98, 99, 100, 101, 102, 103, 104, 105, 106, 107, 108, 109, 110, 111, 112, 113, 114, 115, 116, 117, 118, 119, 120, 121, 122]) t1) fun v30 =>
 bnd (oIndexPtrA 65 1 t12 v29) fun v31 =>
 beff (oStore base 1 H v31 v30) fun v32 h33 =>
 internal_strconv_formatBits_j4 base t0 t3 t4 t10 t11 t12 v29 h33) := (loop_eq (cAt [1, 1, 1, 1, 1, 0, 1, 0, 1, 1, 1, 0, 0, 0] internal_strconv_formatBits_c) ((blockK 0 ((seqK (fun _ t => internal_strconv_formatBits_C base (cAt [1, 1, 1, 1, 1, 0, 1, 0, 1, 1, 1, 1] internal_strconv_formatBits_c) ((seqK (fun _ t => internal_strconv_formatBits_C base (cAt [1, 1, 1, 1, 1, 1] internal_strconv_formatBits_c) (internal_strconv_formatBits_e base) (trimA internal_strconv_formatBits_ks (cAt [1, 1, 1, 1, 1, 1] internal_strconv_formatBits_c) t)) (internal_strconv_formatBits_e base))) (trimA internal_strconv_formatBits_ks (cAt [1, 1, 1, 1, 1, 0, 1, 0, 1, 1, 1, 1] internal_strconv_formatBits_c) t)) ((seqK (fun _ t => internal_strconv_formatBits_C base (cAt [1, 1, 1, 1, 1, 1] internal_strconv_formatBits_c) (internal_strconv_formatBits_e base) (trimA internal_strconv_formatBits_ks (cAt [1, 1, 1, 1, 1, 1] internal_strconv_formatBits_c) t)) (internal_strconv_formatBits_e base))))))) _ H []).trans (by kernel_rfl)
def internal_strconv_formatBits_l6 (base : Nat) (t0 t1 t3 t4 t10 t11 t12 t13 t17 : V) (H : Heap) : Option (Out × Heap) :=
iterL (fun t H d again => internal_strconv_formatBits_C base (cAt [1, 1, 1, 1, 1, 0, 1, 1, 1, 0, 0, 0] internal_strconv_formatBits_c) (loopK internal_strconv_formatBits_ks (cAt [1, 1, 1, 1, 1, 0, 1, 1, 1, 0, 0, 0] internal_strconv_formatBits_c) again ((blockK 2 ((seqK (fun _ t => internal_strconv_formatBits_C base (cAt [1, 1, 1, 1, 1, 0, 1, 1, 1, 1] internal_strconv_formatBits_c) ((seqK (fun _ t => internal_strconv_formatBits_C base (cAt [1, 1, 1, 1, 1, 1] internal_strconv_formatBits_c) (internal_strconv_formatBits_e base) (trimA internal_strconv_formatBits_ks (cAt [1, 1, 1, 1, 1, 1] internal_strconv_formatBits_c) t)) (internal_strconv_formatBits_e base))) (trimA internal_strconv_formatBits_ks (cAt [1, 1, 1, 1, 1, 0, 1, 1, 1, 1] internal_strconv_formatBits_c) t)) ((seqK (fun _ t => internal_strconv_formatBits_C base (cAt [1, 1, 1, 1, 1, 1] internal_strconv_formatBits_c) (internal_strconv_formatBits_e base) (trimA internal_strconv_formatBits_ks (cAt [1, 1, 1, 1, 1, 1] internal_strconv_formatBits_c) t)) (internal_strconv_formatBits_e base)))))))) t H d) [(0, t0), (1, t1), (3, t3), (4, t4), (10, t10), (11, t11), (12, t12), (13, t13), (17, t17)] H []
theorem internal_strconv_formatBits_l6_eq (base : Nat) (t0 t1 t3 t4 t10 t11 t12 t13 t17 : V) (H : Heap) : internal_strconv_formatBits_l6 base t0 t1 t3 t4 t10 t11 t12 t13 t17 H =
 bnd (oBin .geq 6 t1 t17) fun v46 =>
 cnd v46
 (bnd (oBin .sub 6 t13 (.int .i64 1)) fun v47 =>
 bnd (oBin .quo 6 t1 t17) fun v48 =>
 bnd (oBin .mul 6 v48 t17) fun v49 =>
 bnd (oBin .sub 6 t1 v49) fun v50 =>
 bnd (oIndexStr (.str [48, 49, 50, 51, 52, 53, 54, 55, 56, 57, 97, 98, 99, 100, 101, 102, 103, 104, 105, 106, 107, 108, 109, 110, 111, 112, 113, 114, 115, 116, 117, 118, 119, 120, 121, 122]) v50) fun v51 =>
 bnd (oIndexPtrA 65 1 t12 v47) fun v52 =>
 beff (oStore base 1 H v52 v51) fun v53 h54 =>
 internal_strconv_formatBits_l6 base t0 v48 t3 t4 t10 t11 t12 v47 t17 h54)
 (bnd (oBin .sub 6 t13 (.int .i64 1)) fun v55 =>
 bnd (oIndexStr (.str [48, 49, 50, 51, 52, 53, 54, 55, 56, 57, 97, 98, 99, 100, 101, 102, 103, 104, 105, 106, 107, 108, 109, 110, 111, 112, 113, 114, 115, 116, 117, 118, 119, 120, 121, 122]) t1) fun v56 =>
 bnd (oIndexPtrA 65 1 t12 v55) fun v57 =>
 beff (oStore base 1 H v57 v56) fun v58 h59 =>
 internal_strconv_formatBits_j4 base t0 t3 t4 t10 t11 t12 v55 h59) := (loop_eq (cAt [1, 1, 1, 1, 1, 0, 1, 1, 1, 0, 0, 0] internal_strconv_formatBits_c) ((blockK 2 ((seqK (fun _ t => internal_strconv_formatBits_C base (cAt [1, 1, 1, 1, 1, 0, 1, 1, 1, 1] internal_strconv_formatBits_c) ((seqK (fun _ t => internal_strconv_formatBits_C base (cAt [1, 1, 1, 1, 1, 1] internal_strconv_formatBits_c) (internal_strconv_formatBits_e base) (trimA internal_strconv_formatBits_ks (cAt [1, 1, 1, 1, 1, 1] internal_strconv_formatBits_c) t)) (internal_strconv_formatBits_e base))) (trimA internal_strconv_formatBits_ks (cAt [1, 1, 1, 1, 1, 0, 1, 1, 1, 1] internal_strconv_formatBits_c) t)) ((seqK (fun _ t => internal_strconv_formatBits_C base (cAt [1, 1, 1, 1, 1, 1] internal_strconv_formatBits_c) (internal_strconv_formatBits_e base) (trimA internal_strconv_formatBits_ks (cAt [1, 1, 1, 1, 1, 1] internal_strconv_formatBits_c) t)) (internal_strconv_formatBits_e base))))))) _ H []).trans (by kernel_rfl)
def internal_strconv_formatBits_j2 (base : Nat) (t0 t1 t2 t3 t4 t10 t11 t12 t13 : V) (H : Heap) : Option (Out × Heap) :=
internal_strconv_formatBits_C base (cAt [1, 1, 1, 1, 1] internal_strconv_formatBits_c) (internal_strconv_formatBits_e base) [(0, t0), (1, t1), (2, t2), (3, t3), (4, t4), (10, t10), (11, t11), (12, t12), (13, t13)] H []
theorem internal_strconv_formatBits_j2_eq (base : Nat) (t0 t1 t2 t3 t4 t10 t11 t12 t13 : V) (H : Heap) : internal_strconv_formatBits_j2 base t0 t1 t2 t3 t4 t10 t11 t12 t13 H =
 bcall (E n_internal_strconv_isPowerOfTwo [t2] H) (fun v12 h13 =>
 cnd v12
 (bnd (oIntTo .u64 t2) fun v14 =>
 bcall (E n_math_bits_TrailingZeros [v14] h13) (fun v15 h16 =>
 bnd (oIntTo .u64 v15) fun v17 =>
 bnd (oIntTo .u64 t2) fun v18 =>
 bnd (oIntTo .u64 t2) fun v19 =>
 bnd (oBin .sub 6 v19 (.int .u64 1)) fun v20 =>
 internal_strconv_formatBits_l3 base t0 t1 t3 t4 t10 t11 t12 t13 v17 v18 v20 h16)
 (fun v15 h16 => pn false base v15 h16))
 (bnd (oIntTo .u64 t2) fun v45 =>
 internal_strconv_formatBits_l6 base t0 t1 t3 t4 t10 t11 t12 t13 v45 h13))
 (fun v12 h13 => pn false base v12 h13) := by kernel_rfl
def internal_strconv_formatBits_j1 (base : Nat) (t0 t1 t2 t3 t4 t10 t11 : V) (H : Heap) : Option (Out × Heap) :=
internal_strconv_formatBits_C base (cAt [1, 1] internal_strconv_formatBits_c) (internal_strconv_formatBits_e base) [(0, t0), (1, t1), (2, t2), (3, t3), (4, t4), (10, t10), (11, t11)] H []
theorem internal_strconv_formatBits_j1_eq (base : Nat) (t0 t1 t2 t3 t4 t10 t11 : V) (H : Heap) : internal_strconv_formatBits_j1 base t0 t1 t2 t3 t4 t10 t11 H =
 beff (oVar H (.agg [(.int .u8 0), (.int .u8 0), (.int .u8 0), (.int .u8 0), (.int .u8 0), (.int .u8 0), (.int .u8 0), (.int .u8 0), (.int .u8 0), (.int .u8 0), (.int .u8 0), (.int .u8 0), (.int .u8 0), (.int .u8 0), (.int .u8 0), (.int .u8 0), (.int .u8 0), (.int .u8 0), (.int .u8 0), (.int .u8 0), (.int .u8 0), (.int .u8 0), (.int .u8 0), (.int .u8 0), (.int .u8 0), (.int .u8 0), (.int .u8 0), (.int .u8 0), (.int .u8 0), (.int .u8 0), (.int .u8 0), (.int .u8 0), (.int .u8 0), (.int .u8 0), (.int .u8 0), (.int .u8 0), (.int .u8 0), (.int .u8 0), (.int .u8 0), (.int .u8 0), (.int .u8 0), (.int .u8 0), (.int .u8 0), (.int .u8 0), (.int .u8 0), (.int .u8 0), (.int .u8 0), (.int .u8 0), (.int .u8 0), (.int .u8 0), (.int .u8 0), (.int .u8 0), (.int .u8 0), (.int .u8 0), (.int .u8 0), (.int .u8 0), (.int .u8 0), (.int .u8 0), (.int .u8 0), (.int .u8 0), (.int .u8 0), (.int .u8 0), (.int .u8 0), (.int .u8 0), (.int .u8 0)])) fun v9 h10 =>
 cnd t3
 (bnd (oUn .neg t1) fun v11 =>
 internal_strconv_formatBits_j2 base t0 v11 t2 t3 t4 t10 t11 v9 (.int .i64 65) h10)
 (internal_strconv_formatBits_j2 base t0 t1 t2 t3 t4 t10 t11 v9 (.int .i64 65) h10) := by kernel_rfl
def internal_strconv_formatBits (base : Nat) (t0 t1 t2 t3 t4 : V) (H : Heap) : Option (Out × Heap) := internal_strconv_formatBits_C base internal_strconv_formatBits_c (internal_strconv_formatBits_e base) [(0, t0), (1, t1), (2, t2), (3, t3), (4, t4)] H []
theorem internal_strconv_formatBits_eq (base : Nat) (t0 t1 t2 t3 t4 : V) (H : Heap) : internal_strconv_formatBits base t0 t1 t2 t3 t4 H =
 bnd (oBin .lss 6 t2 (.int .i64 2)) fun v0 =>
 bnd (gua v0 false (oMove t2) (some (.tup []))) fun v1 =>
 bnd (gua v0 false (oBin .eql 6 v1 (.int .i64 10)) (some (.tup []))) fun v2 =>
 bnd (oPick v0 (.bool true) v2) fun v3 =>
 bnd (gua v3 false (oMove t2) (some (.tup []))) fun v4 =>
 bnd (gua v3 false (oBin .gtr 6 v4 (.int .i64 36)) (some (.tup []))) fun v5 =>
 bnd (oPick v3 (.bool true) v5) fun v6 =>
 cnd v6
 (bnd (oIface ty_string (.str [115, 116, 114, 99, 111, 110, 118, 58, 32, 105, 108, 108, 101, 103, 97, 108, 32, 65, 112, 112, 101, 110, 100, 73, 110, 116, 47, 70, 111, 114, 109, 97, 116, 73, 110, 116, 32, 98, 97, 115, 101])) fun v7 =>
 bnd (oPanic v7) fun v8 => pn false base v8 H)
 (internal_strconv_formatBits_j1 base t0 t1 t2 t3 t4 .nils (.str []) H) := by kernel_rfl
theorem internal_strconv_formatBits_E (t0 t1 t2 t3 t4 : V) (H : Heap) : E n_internal_strconv_formatBits [t0, t1, t2, t3, t4] H = internal_strconv_formatBits H.length t0 t1 t2 t3 t4 H := (EV_at Tryd.func92 (by kernel_rfl) (by kernel_rfl) (by kernel_rfl)).trans (by kernel_rfl)

def unicode_utf8_DecodeRuneInString_c : Code := bodyOf Tryd.f93
def unicode_utf8_DecodeRuneInString_ks : Ks := []
def unicode_utf8_DecodeRuneInString_e (base : Nat) : KC (Out × Heap) := xEnd Tryd.prog D false base 19 Tryd.f93.results.toList
def unicode_utf8_DecodeRuneInString_C (base : Nat) (c : Code) (k : KC (Out × Heap)) (t : Ts) (H : Heap) (d : Ds) : Option (Out × Heap) := xC Tryd.prog base false unicode_utf8_DecodeRuneInString_ks E 19 c k t H d
def unicode_utf8_DecodeRuneInString (base : Nat) (t0 : V) (H : Heap) : Option (Out × Heap) := unicode_utf8_DecodeRuneInString_C base unicode_utf8_DecodeRuneInString_c (unicode_utf8_DecodeRuneInString_e base) [(0, t0)] H []
theorem unicode_utf8_DecodeRuneInString_eq (base : Nat) (t0 : V) (H : Heap) : unicode_utf8_DecodeRuneInString base t0 H =
 bnd (oBin .neq 6 t0 (.str [])) fun v0 =>
 bnd (gua v0 true (oMove t0) (some (.tup []))) fun v1 =>
 bnd (gua v0 true (oIndexStr v1 (.int .i64 0)) (some (.tup []))) fun v2 =>
 bnd (gua v0 true (oBin .lss 6 v2 (.int .u8 128)) (some (.tup []))) fun v3 =>
 bnd (oPick v0 v3 (.bool false)) fun v4 =>
 cnd v4
 (bnd (oIndexStr t0 (.int .i64 0)) fun v5 =>
 bnd (oIntTo .i32 v5) fun v6 =>
 rt false base (.tup [v6, (.int .i64 1)]) H)
 (bcall (E n_unicode_utf8_decodeRuneInStringSlow [t0] H) (fun v7 h8 =>
 bnd (oExtract v7 0) fun v9 =>
 bnd (oExtract v7 1) fun v10 =>
 rt false base (.tup [v9, v10]) h8)
 (fun v7 h8 => pn false base v7 h8)) := by kernel_rfl
theorem unicode_utf8_DecodeRuneInString_E (t0 : V) (H : Heap) : E n_unicode_utf8_DecodeRuneInString [t0] H = unicode_utf8_DecodeRuneInString H.length t0 H := (EV_at Tryd.func93 (by kernel_rfl) (by kernel_rfl) (by kernel_rfl)).trans (by kernel_rfl)

def unicode_utf8_RuneLen_c : Code := bodyOf Tryd.f94
def unicode_utf8_RuneLen_ks : Ks := []
def unicode_utf8_RuneLen_e (base : Nat) : KC (Out × Heap) := xEnd Tryd.prog D false base 25 Tryd.f94.results.toList
def unicode_utf8_RuneLen_C (base : Nat) (c : Code) (k : KC (Out × Heap)) (t : Ts) (H : Heap) (d : Ds) : Option (Out × Heap) := xC Tryd.prog base false unicode_utf8_RuneLen_ks E 25 c k t H d
def unicode_utf8_RuneLen (base : Nat) (t0 : V) (H : Heap) : Option (Out × Heap) := unicode_utf8_RuneLen_C base unicode_utf8_RuneLen_c (unicode_utf8_RuneLen_e base) [(0, t0)] H []
theorem unicode_utf8_RuneLen_eq (base : Nat) (t0 : V) (H : Heap) : unicode_utf8_RuneLen base t0 H =
 bnd (oBin .lss 6 t0 (.int .i32 0)) fun v0 =>
 cnd v0
 (rt false base (.int .i64 (-1)) H)
 (bnd (oBin .leq 6 t0 (.int .i32 127)) fun v1 =>
 cnd v1
 (rt false base (.int .i64 1) H)
 (bnd (oBin .leq 6 t0 (.int .i32 2047)) fun v2 =>
 cnd v2
 (rt false base (.int .i64 2) H)
 (bnd (oBin .leq 6 (.int .i32 55296) t0) fun v3 =>
 bnd (gua v3 true (oMove t0) (some (.tup []))) fun v4 =>
 bnd (gua v3 true (oBin .leq 6 v4 (.int .i32 57343)) (some (.tup []))) fun v5 =>
 bnd (oPick v3 v5 (.bool false)) fun v6 =>
 cnd v6
 (rt false base (.int .i64 (-1)) H)
 (bnd (oBin .leq 6 t0 (.int .i32 65535)) fun v7 =>
 cnd v7
 (rt false base (.int .i64 3) H)
 (bnd (oBin .leq 6 t0 (.int .i32 1114111)) fun v8 =>
 cnd v8
 (rt false base (.int .i64 4) H)
 (rt false base (.int .i64 (-1)) H)))))) := by kernel_rfl
theorem unicode_utf8_RuneLen_E (t0 : V) (H : Heap) : E n_unicode_utf8_RuneLen [t0] H = unicode_utf8_RuneLen H.length t0 H := (EV_at Tryd.func94 (by kernel_rfl) (by kernel_rfl) (by kernel_rfl)).trans (by kernel_rfl)
end
end Go.Proofs.YthcjjicplodhjaaDoor
end

