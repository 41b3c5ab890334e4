/- Fn4: a part of the proof that each law of this seat answers true at every input. No condition. -/
import Derived.Test.YthcjjicplodhjaaDoorHint
import Derived.KernelRfl
set_option linter.unusedVariables false
set_option linter.unusedSimpArgs false
set_option maxRecDepth 20000
section
/- Printed: what functions do. -/
namespace Go.Proofs.YthcjjicplodhjaaDoor
open Go Go.Ev
set_option linter.unusedVariables false
noncomputable section

def internal_strconv_formatBits_c : Code := bodyOf Tryd.f92
def internal_strconv_formatBits_ks : Ks := [(3, [0, 1, 2, 3, 4, 10, 11]), (7, [0, 1, 2, 3, 4, 10, 11, 12, 13]), (11, [0, 1, 3, 4, 10, 11, 12, 13, 14, 15, 16]), (18, [0, 1, 3, 4, 10, 11, 12, 13, 17]), (25, [0, 3, 4, 10, 11, 12, 13]), (28, [0, 4, 10, 11, 12, 13])]
def internal_strconv_formatBits_e (base : Nat) : KC (Out × Heap) := xEnd Tryd.prog D false base 102 Tryd.f92.results.toList
def internal_strconv_formatBits_C (base : Nat) (c : Code) (k : KC (Out × Heap)) (t : Ts) (H : Heap) (d : Ds) : Option (Out × Heap) := xC Tryd.prog base false internal_strconv_formatBits_ks E 102 c k t H d
def internal_strconv_formatBits_l3 (base : Nat) (t0 t1 t3 t4 t10 t11 t12 t13 t14 t15 t16 : V) (H : Heap) : Option (Out × Heap) :=
iterL (fun t H d again => internal_strconv_formatBits_C base (cAt [1, 1, 1, 1, 1, 0, 1, 0, 1, 1, 1, 0, 0, 0] internal_strconv_formatBits_c) (loopK internal_strconv_formatBits_ks (cAt [1, 1, 1, 1, 1, 0, 1, 0, 1, 1, 1, 0, 0, 0] internal_strconv_formatBits_c) again ((blockK 0 ((seqK (fun _ t => internal_strconv_formatBits_C base (cAt [1, 1, 1, 1, 1, 0, 1, 0, 1, 1, 1, 1] internal_strconv_formatBits_c) ((seqK (fun _ t => internal_strconv_formatBits_C base (cAt [1, 1, 1, 1, 1, 1] internal_strconv_formatBits_c) (internal_strconv_formatBits_e base) (trimA internal_strconv_formatBits_ks (cAt [1, 1, 1, 1, 1, 1] internal_strconv_formatBits_c) t)) (internal_strconv_formatBits_e base))) (trimA internal_strconv_formatBits_ks (cAt [1, 1, 1, 1, 1, 0, 1, 0, 1, 1, 1, 1] internal_strconv_formatBits_c) t)) ((seqK (fun _ t => internal_strconv_formatBits_C base (cAt [1, 1, 1, 1, 1, 1] internal_strconv_formatBits_c) (internal_strconv_formatBits_e base) (trimA internal_strconv_formatBits_ks (cAt [1, 1, 1, 1, 1, 1] internal_strconv_formatBits_c) t)) (internal_strconv_formatBits_e base)))))))) t H d) [(0, t0), (1, t1), (3, t3), (4, t4), (10, t10), (11, t11), (12, t12), (13, t13), (14, t14), (15, t15), (16, t16)] H []
def internal_strconv_formatBits_j5 (base : Nat) (t0 t4 t10 t11 t12 t13 : V) (H : Heap) : Option (Out × Heap) :=
internal_strconv_formatBits_C base (cAt [1, 1, 1, 1, 1, 1, 1] internal_strconv_formatBits_c) (internal_strconv_formatBits_e base) [(0, t0), (4, t4), (10, t10), (11, t11), (12, t12), (13, t13)] H []
theorem internal_strconv_formatBits_j5_eq (base : Nat) (t0 t4 t10 t11 t12 t13 : V) (H : Heap) : internal_strconv_formatBits_j5 base t0 t4 t10 t11 t12 t13 H =
 cnd t4
 (beff (oSliceA 1 65 false t12 (some t13) none none H) fun v38 h39 =>
 beff (oAppend base 1 1 false t0 v38 h39) fun v40 h41 =>
 rt false base (.tup [v40, t11]) h41)
 (beff (oSliceA 1 65 false t12 (some t13) none none H) fun v42 h43 =>
 bnd (oText h43 v42) fun v44 =>
 rt false base (.tup [t10, v44]) h43) := by kernel_rfl
def internal_strconv_formatBits_j4 (base : Nat) (t0 t3 t4 t10 t11 t12 t13 : V) (H : Heap) : Option (Out × Heap) :=
internal_strconv_formatBits_C base (cAt [1, 1, 1, 1, 1, 1] internal_strconv_formatBits_c) (internal_strconv_formatBits_e base) [(0, t0), (3, t3), (4, t4), (10, t10), (11, t11), (12, t12), (13, t13)] H []
theorem internal_strconv_formatBits_j4_eq (base : Nat) (t0 t3 t4 t10 t11 t12 t13 : V) (H : Heap) : internal_strconv_formatBits_j4 base t0 t3 t4 t10 t11 t12 t13 H =
 cnd t3
 (bnd (oBin .sub 6 t13 (.int .i64 1)) fun v34 =>
 bnd (oIndexPtrA 65 1 t12 v34) fun v35 =>
 beff (oStore base 1 H v35 (.int .u8 45)) fun v36 h37 =>
 internal_strconv_formatBits_j5 base t0 t4 t10 t11 t12 v34 h37)
 (internal_strconv_formatBits_j5 base t0 t4 t10 t11 t12 t13 H) := by kernel_rfl
theorem internal_strconv_formatBits_l3_eq (base : Nat) (t0 t1 t3 t4 t10 t11 t12 t13 t14 t15 t16 : V) (H : Heap) : internal_strconv_formatBits_l3 base t0 t1 t3 t4 t10 t11 t12 t13 t14 t15 t16 H =
 bnd (oBin .geq 6 t1 t15) fun v21 =>
 cnd v21
 (bnd (oBin .sub 6 t13 (.int .i64 1)) fun v22 =>
 bnd (oBin .and 6 t1 t16) fun v23 =>
 bnd (oIndexStr (.str [48, 49, 50, 51, 52, 53, 54, 55, 56, 57, 97, 98, 99, 100, 101, 102, 103, 104, 105, 106, 107, 108, 109, 110, 111, 112, 113, 114, 115, 116, 117, 118, 119, 120, 121, 122]) v23) fun v24 =>
 bnd (oIndexPtrA 65 1 t12 v22) fun v25 =>
 beff (oStore base 1 H v25 v24) fun v26 h27 =>
 bnd (oBin .shr 6 t1 t14) fun v28 =>
 internal_strconv_formatBits_l3 base t0 v28 t3 t4 t10 t11 t12 v22 t14 t15 t16 h27)
 (bnd (oBin .sub 6 t13 (.int .i64 1)) fun v29 =>
 bnd (oIndexStr (.str [48, 49, 50, 51, 52, 53, 54, 55, 56, 57, 97, 98, 99, 100, 101, 102, 103, 104, 105, 106, 107, 108, 109, 110, 111, 112, 113, 114, 115, 116, 117, 118, 119, 120, 121, 122]) t1) fun v30 =>
 bnd (oIndexPtrA 65 1 t12 v29) fun v31 =>
 beff (oStore base 1 H v31 v30) fun v32 h33 =>
 internal_strconv_formatBits_j4 base t0 t3 t4 t10 t11 t12 v29 h33) := (loop_eq (cAt [1, 1, 1, 1, 1, 0, 1, 0, 1, 1, 1, 0, 0, 0] internal_strconv_formatBits_c) ((blockK 0 ((seqK (fun _ t => internal_strconv_formatBits_C base (cAt [1, 1, 1, 1, 1, 0, 1, 0, 1, 1, 1, 1] internal_strconv_formatBits_c) ((seqK (fun _ t => internal_strconv_formatBits_C base (cAt [1, 1, 1, 1, 1, 1] internal_strconv_formatBits_c) (internal_strconv_formatBits_e base) (trimA internal_strconv_formatBits_ks (cAt [1, 1, 1, 1, 1, 1] internal_strconv_formatBits_c) t)) (internal_strconv_formatBits_e base))) (trimA internal_strconv_formatBits_ks (cAt [1, 1, 1, 1, 1, 0, 1, 0, 1, 1, 1, 1] internal_strconv_formatBits_c) t)) ((seqK (fun _ t => internal_strconv_formatBits_C base (cAt [1, 1, 1, 1, 1, 1] internal_strconv_formatBits_c) (internal_strconv_formatBits_e base) (trimA internal_strconv_formatBits_ks (cAt [1, 1, 1, 1, 1, 1] internal_strconv_formatBits_c) t)) (internal_strconv_formatBits_e base))))))) _ H []).trans (by kernel_rfl)
def internal_strconv_formatBits_l6 (base : Nat) (t0 t1 t3 t4 t10 t11 t12 t13 t17 : V) (H : Heap) : Option (Out × Heap) :=
iterL (fun t H d again => internal_strconv_formatBits_C base (cAt [1, 1, 1, 1, 1, 0, 1, 1, 1, 0, 0, 0] internal_strconv_formatBits_c) (loopK internal_strconv_formatBits_ks (cAt [1, 1, 1, 1, 1, 0, 1, 1, 1, 0, 0, 0] internal_strconv_formatBits_c) again ((blockK 2 ((seqK (fun _ t => internal_strconv_formatBits_C base (cAt [1, 1, 1, 1, 1, 0, 1, 1, 1, 1] internal_strconv_formatBits_c) ((seqK (fun _ t => internal_strconv_formatBits_C base (cAt [1, 1, 1, 1, 1, 1] internal_strconv_formatBits_c) (internal_strconv_formatBits_e base) (trimA internal_strconv_formatBits_ks (cAt [1, 1, 1, 1, 1, 1] internal_strconv_formatBits_c) t)) (internal_strconv_formatBits_e base))) (trimA internal_strconv_formatBits_ks (cAt [1, 1, 1, 1, 1, 0, 1, 1, 1, 1] internal_strconv_formatBits_c) t)) ((seqK (fun _ t => internal_strconv_formatBits_C base (cAt [1, 1, 1, 1, 1, 1] internal_strconv_formatBits_c) (internal_strconv_formatBits_e base) (trimA internal_strconv_formatBits_ks (cAt [1, 1, 1, 1, 1, 1] internal_strconv_formatBits_c) t)) (internal_strconv_formatBits_e base)))))))) t H d) [(0, t0), (1, t1), (3, t3), (4, t4), (10, t10), (11, t11), (12, t12), (13, t13), (17, t17)] H []
theorem internal_strconv_formatBits_l6_eq (base : Nat) (t0 t1 t3 t4 t10 t11 t12 t13 t17 : V) (H : Heap) : internal_strconv_formatBits_l6 base t0 t1 t3 t4 t10 t11 t12 t13 t17 H =
 bnd (oBin .geq 6 t1 t17) fun v46 =>
 cnd v46
 (bnd (oBin .sub 6 t13 (.int .i64 1)) fun v47 =>
 bnd (oBin .quo 6 t1 t17) fun v48 =>
 bnd (oBin .mul 6 v48 t17) fun v49 =>
 bnd (oBin .sub 6 t1 v49) fun v50 =>
 bnd (oIndexStr (.str [48, 49, 50, 51, 52, 53, 54, 55, 56, 57, 97, 98, 99, 100, 101, 102, 103, 104, 105, 106, 107, 108, 109, 110, 111, 112, 113, 114, 115, 116, 117, 118, 119, 120, 121, 122]) v50) fun v51 =>
 bnd (oIndexPtrA 65 1 t12 v47) fun v52 =>
 beff (oStore base 1 H v52 v51) fun v53 h54 =>
 internal_strconv_formatBits_l6 base t0 v48 t3 t4 t10 t11 t12 v47 t17 h54)
 (bnd (oBin .sub 6 t13 (.int .i64 1)) fun v55 =>
 bnd (oIndexStr (.str [48, 49, 50, 51, 52, 53, 54, 55, 56, 57, 97, 98, 99, 100, 101, 102, 103, 104, 105, 106, 107, 108, 109, 110, 111, 112, 113, 114, 115, 116, 117, 118, 119, 120, 121, 122]) t1) fun v56 =>
 bnd (oIndexPtrA 65 1 t12 v55) fun v57 =>
 beff (oStore base 1 H v57 v56) fun v58 h59 =>
 internal_strconv_formatBits_j4 base t0 t3 t4 t10 t11 t12 v55 h59) := (loop_eq (cAt [1, 1, 1, 1, 1, 0, 1, 1, 1, 0, 0, 0] internal_strconv_formatBits_c) ((blockK 2 ((seqK (fun _ t => internal_strconv_formatBits_C base (cAt [1, 1, 1, 1, 1, 0, 1, 1, 1, 1] internal_strconv_formatBits_c) ((seqK (fun _ t => internal_strconv_formatBits_C base (cAt [1, 1, 1, 1, 1, 1] internal_strconv_formatBits_c) (internal_strconv_formatBits_e base) (trimA internal_strconv_formatBits_ks (cAt [1, 1, 1, 1, 1, 1] internal_strconv_formatBits_c) t)) (internal_strconv_formatBits_e base))) (trimA internal_strconv_formatBits_ks (cAt [1, 1, 1, 1, 1, 0, 1, 1, 1, 1] internal_strconv_formatBits_c) t)) ((seqK (fun _ t => internal_strconv_formatBits_C base (cAt [1, 1, 1, 1, 1, 1] internal_strconv_formatBits_c) (internal_strconv_formatBits_e base) (trimA internal_strconv_formatBits_ks (cAt [1, 1, 1, 1, 1, 1] internal_strconv_formatBits_c) t)) (internal_strconv_formatBits_e base))))))) _ H []).trans (by kernel_rfl)
def internal_strconv_formatBits_j2 (base : Nat) (t0 t1 t2 t3 t4 t10 t11 t12 t13 : V) (H : Heap) : Option (Out × Heap) :=
internal_strconv_formatBits_C base (cAt [1, 1, 1, 1, 1] internal_strconv_formatBits_c) (internal_strconv_formatBits_e base) [(0, t0), (1, t1), (2, t2), (3, t3), (4, t4), (10, t10), (11, t11), (12, t12), (13, t13)] H []
theorem internal_strconv_formatBits_j2_eq (base : Nat) (t0 t1 t2 t3 t4 t10 t11 t12 t13 : V) (H : Heap) : internal_strconv_formatBits_j2 base t0 t1 t2 t3 t4 t10 t11 t12 t13 H =
 bcall (E n_internal_strconv_isPowerOfTwo [t2] H) (fun v12 h13 =>
 cnd v12
 (bnd (oIntTo .u64 t2) fun v14 =>
 bcall (E n_math_bits_TrailingZeros [v14] h13) (fun v15 h16 =>
 bnd (oIntTo .u64 v15) fun v17 =>
 bnd (oIntTo .u64 t2) fun v18 =>
 bnd (oIntTo .u64 t2) fun v19 =>
 bnd (oBin .sub 6 v19 (.int .u64 1)) fun v20 =>
 internal_strconv_formatBits_l3 base t0 t1 t3 t4 t10 t11 t12 t13 v17 v18 v20 h16)
 (fun v15 h16 => pn false base v15 h16))
 (bnd (oIntTo .u64 t2) fun v45 =>
 internal_strconv_formatBits_l6 base t0 t1 t3 t4 t10 t11 t12 t13 v45 h13))
 (fun v12 h13 => pn false base v12 h13) := by kernel_rfl
def internal_strconv_formatBits_j1 (base : Nat) (t0 t1 t2 t3 t4 t10 t11 : V) (H : Heap) : Option (Out × Heap) :=
internal_strconv_formatBits_C base (cAt [1, 1] internal_strconv_formatBits_c) (internal_strconv_formatBits_e base) [(0, t0), (1, t1), (2, t2), (3, t3), (4, t4), (10, t10), (11, t11)] H []
theorem internal_strconv_formatBits_j1_eq (base : Nat) (t0 t1 t2 t3 t4 t10 t11 : V) (H : Heap) : internal_strconv_formatBits_j1 base t0 t1 t2 t3 t4 t10 t11 H =
 beff (oVar H (.agg [(.int .u8 0), (.int .u8 0), (.int .u8 0), (.int .u8 0), (.int .u8 0), (.int .u8 0), (.int .u8 0), (.int .u8 0), (.int .u8 0), (.int .u8 0), (.int .u8 0), (.int .u8 0), (.int .u8 0), (.int .u8 0), (.int .u8 0), (.int .u8 0), (.int .u8 0), (.int .u8 0), (.int .u8 0), (.int .u8 0), (.int .u8 0), (.int .u8 0), (.int .u8 0), (.int .u8 0), (.int .u8 0), (.int .u8 0), (.int .u8 0), (.int .u8 0), (.int .u8 0), (.int .u8 0), (.int .u8 0), (.int .u8 0), (.int .u8 0), (.int .u8 0), (.int .u8 0), (.int .u8 0), (.int .u8 0), (.int .u8 0), (.int .u8 0), (.int .u8 0), (.int .u8 0), (.int .u8 0), (.int .u8 0), (.int .u8 0), (.int .u8 0), (.int .u8 0), (.int .u8 0), (.int .u8 0), (.int .u8 0), (.int .u8 0), (.int .u8 0), (.int .u8 0), (.int .u8 0), (.int .u8 0), (.int .u8 0), (.int .u8 0), (.int .u8 0), (.int .u8 0), (.int .u8 0), (.int .u8 0), (.int .u8 0), (.int .u8 0), (.int .u8 0), (.int .u8 0), (.int .u8 0)])) fun v9 h10 =>
 cnd t3
 (bnd (oUn .neg t1) fun v11 =>
 internal_strconv_formatBits_j2 base t0 v11 t2 t3 t4 t10 t11 v9 (.int .i64 65) h10)
 (internal_strconv_formatBits_j2 base t0 t1 t2 t3 t4 t10 t11 v9 (.int .i64 65) h10) := by kernel_rfl
def internal_strconv_formatBits (base : Nat) (t0 t1 t2 t3 t4 : V) (H : Heap) : Option (Out × Heap) := internal_strconv_formatBits_C base internal_strconv_formatBits_c (internal_strconv_formatBits_e base) [(0, t0), (1, t1), (2, t2), (3, t3), (4, t4)] H []
theorem internal_strconv_formatBits_eq (base : Nat) (t0 t1 t2 t3 t4 : V) (H : Heap) : internal_strconv_formatBits base t0 t1 t2 t3 t4 H =
 bnd (oBin .lss 6 t2 (.int .i64 2)) fun v0 =>
 bnd (gua v0 false (oMove t2) (some (.tup []))) fun v1 =>
 bnd (gua v0 false (oBin .eql 6 v1 (.int .i64 10)) (some (.tup []))) fun v2 =>
 bnd (oPick v0 (.bool true) v2) fun v3 =>
 bnd (gua v3 false (oMove t2) (some (.tup []))) fun v4 =>
 bnd (gua v3 false (oBin .gtr 6 v4 (.int .i64 36)) (some (.tup []))) fun v5 =>
 bnd (oPick v3 (.bool true) v5) fun v6 =>
 cnd v6
 (bnd (oIface ty_string (.str [115, 116, 114, 99, 111, 110, 118, 58, 32, 105, 108, 108, 101, 103, 97, 108, 32, 65, 112, 112, 101, 110, 100, 73, 110, 116, 47, 70, 111, 114, 109, 97, 116, 73, 110, 116, 32, 98, 97, 115, 101])) fun v7 =>
 bnd (oPanic v7) fun v8 => pn false base v8 H)
 (internal_strconv_formatBits_j1 base t0 t1 t2 t3 t4 .nils (.str []) H) := by kernel_rfl
theorem internal_strconv_formatBits_E (t0 t1 t2 t3 t4 : V) (H : Heap) : E n_internal_strconv_formatBits [t0, t1, t2, t3, t4] H = internal_strconv_formatBits H.length t0 t1 t2 t3 t4 H := (EV_at Tryd.func92 (by kernel_rfl) (by kernel_rfl) (by kernel_rfl)).trans (by kernel_rfl)

def internal_strconv_isPowerOfTwo_c : Code := bodyOf Tryd.f104
def internal_strconv_isPowerOfTwo_ks : Ks := []
def internal_strconv_isPowerOfTwo_e (base : Nat) : KC (Out × Heap) := xEnd Tryd.prog D false base 8 Tryd.f104.results.toList
def internal_strconv_isPowerOfTwo_C (base : Nat) (c : Code) (k : KC (Out × Heap)) (t : Ts) (H : Heap) (d : Ds) : Option (Out × Heap) := xC Tryd.prog base false internal_strconv_isPowerOfTwo_ks E 8 c k t H d
def internal_strconv_isPowerOfTwo (base : Nat) (t0 : V) (H : Heap) : Option (Out × Heap) := internal_strconv_isPowerOfTwo_C base internal_strconv_isPowerOfTwo_c (internal_strconv_isPowerOfTwo_e base) [(0, t0)] H []
theorem internal_strconv_isPowerOfTwo_eq (base : Nat) (t0 : V) (H : Heap) : internal_strconv_isPowerOfTwo base t0 H =
 bnd (oBin .sub 6 t0 (.int .i64 1)) fun v0 =>
 bnd (oBin .and 6 t0 v0) fun v1 =>
 bnd (oBin .eql 6 v1 (.int .i64 0)) fun v2 =>
 rt false base v2 H := by kernel_rfl
theorem internal_strconv_isPowerOfTwo_E (t0 : V) (H : Heap) : E n_internal_strconv_isPowerOfTwo [t0] H = internal_strconv_isPowerOfTwo H.length t0 H := (EV_at Tryd.func104 (by kernel_rfl) (by kernel_rfl) (by kernel_rfl)).trans (by kernel_rfl)

def math_bits_TrailingZeros_c : Code := bodyOf Tryd.f105
def math_bits_TrailingZeros_ks : Ks := []
def math_bits_TrailingZeros_e (base : Nat) : KC (Out × Heap) := xEnd Tryd.prog D false base 8 Tryd.f105.results.toList
def math_bits_TrailingZeros_C (base : Nat) (c : Code) (k : KC (Out × Heap)) (t : Ts) (H : Heap) (d : Ds) : Option (Out × Heap) := xC Tryd.prog base false math_bits_TrailingZeros_ks E 8 c k t H d
def math_bits_TrailingZeros (base : Nat) (t0 : V) (H : Heap) : Option (Out × Heap) := math_bits_TrailingZeros_C base math_bits_TrailingZeros_c (math_bits_TrailingZeros_e base) [(0, t0)] H []
theorem math_bits_TrailingZeros_eq (base : Nat) (t0 : V) (H : Heap) : math_bits_TrailingZeros base t0 H =
 cnd (.bool false)
 (bnd (oIntTo .u32 t0) fun v0 =>
 bcall (E n_math_bits_TrailingZeros32 [v0] H) (fun v1 h2 =>
 rt false base v1 h2)
 (fun v1 h2 => pn false base v1 h2))
 (bcall (E n_math_bits_TrailingZeros64 [t0] H) (fun v3 h4 =>
 rt false base v3 h4)
 (fun v3 h4 => pn false base v3 h4)) := by kernel_rfl
theorem math_bits_TrailingZeros_E (t0 : V) (H : Heap) : E n_math_bits_TrailingZeros [t0] H = math_bits_TrailingZeros H.length t0 H := (EV_at Tryd.func105 (by kernel_rfl) (by kernel_rfl) (by kernel_rfl)).trans (by kernel_rfl)
end
end Go.Proofs.YthcjjicplodhjaaDoor
end

