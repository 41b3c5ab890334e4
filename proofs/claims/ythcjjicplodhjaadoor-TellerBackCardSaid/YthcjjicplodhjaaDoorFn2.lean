/- Fn2: a part of the proof that each law of this seat answers true at every input. No condition. -/
import Derived.Test.YthcjjicplodhjaaDoorHint
import Derived.KernelRfl
set_option linter.unusedVariables false
set_option linter.unusedSimpArgs false
set_option maxRecDepth 20000
section
/- Printed: what functions do. -/
namespace Go.Proofs.YthcjjicplodhjaaDoor
open Go Go.Ev
set_option linter.unusedVariables false
noncomputable section

def teller_plain_c : Code := bodyOf Tryd.f35
def teller_plain_ks : Ks := [(2, [0, 1, 7, 8])]
def teller_plain_e (base : Nat) : KC (Out × Heap) := xEnd Tryd.prog D false base 18 Tryd.f35.results.toList
def teller_plain_C (base : Nat) (c : Code) (k : KC (Out × Heap)) (t : Ts) (H : Heap) (d : Ds) : Option (Out × Heap) := xC Tryd.prog base false teller_plain_ks E 18 c k t H d
def teller_plain_l1 (base : Nat) (t0 t1 t7 t8 : V) (H : Heap) : Option (Out × Heap) :=
iterL (fun t H d again => teller_plain_C base (cAt [1, 0, 1, 0, 0] teller_plain_c) (loopK teller_plain_ks (cAt [1, 0, 1, 0, 0] teller_plain_c) again ((blockK 0 ((seqK (fun _ t => teller_plain_C base (cAt [1, 1] teller_plain_c) (teller_plain_e base) (trimA teller_plain_ks (cAt [1, 1] teller_plain_c) t)) (teller_plain_e base)))))) t H d) [(0, t0), (1, t1), (7, t7), (8, t8)] H []
theorem teller_plain_l1_eq (base : Nat) (t0 t1 t7 t8 : V) (H : Heap) : teller_plain_l1 base t0 t1 t7 t8 H =
 bnd (oBin .lss 6 t8 t7) fun v1 =>
 cnd v1
 (bnd (oIndexStr t0 t8) fun v2 =>
 bcall (E n_strings_IndexByte [t1, v2] H) (fun v3 h4 =>
 bnd (oBin .lss 6 v3 (.int .i64 0)) fun v5 =>
 cnd v5
 (rt false base (.bool false) h4)
 (bnd (oBin .add 6 t8 (.int .i64 1)) fun v6 =>
 teller_plain_l1 base t0 t1 t7 v6 h4))
 (fun v3 h4 => pn false base v3 h4))
 (rt false base (.bool true) H) := (loop_eq (cAt [1, 0, 1, 0, 0] teller_plain_c) ((blockK 0 ((seqK (fun _ t => teller_plain_C base (cAt [1, 1] teller_plain_c) (teller_plain_e base) (trimA teller_plain_ks (cAt [1, 1] teller_plain_c) t)) (teller_plain_e base))))) _ H []).trans (by kernel_rfl)
def teller_plain (base : Nat) (t0 t1 : V) (H : Heap) : Option (Out × Heap) := teller_plain_C base teller_plain_c (teller_plain_e base) [(0, t0), (1, t1)] H []
theorem teller_plain_eq (base : Nat) (t0 t1 : V) (H : Heap) : teller_plain base t0 t1 H =
 bnd (oLenStr t0) fun v0 =>
 teller_plain_l1 base t0 t1 v0 (.int .i64 0) H := by kernel_rfl
theorem teller_plain_E (t0 t1 : V) (H : Heap) : E n_teller_plain [t0, t1] H = teller_plain H.length t0 t1 H := (EV_at Tryd.func35 (by kernel_rfl) (by kernel_rfl) (by kernel_rfl)).trans (by kernel_rfl)

def teller_within_c : Code := bodyOf Tryd.f38
def teller_within_ks : Ks := []
def teller_within_e (base : Nat) : KC (Out × Heap) := xEnd Tryd.prog D false base 47 Tryd.f38.results.toList
def teller_within_C (base : Nat) (c : Code) (k : KC (Out × Heap)) (t : Ts) (H : Heap) (d : Ds) : Option (Out × Heap) := xC Tryd.prog base false teller_within_ks E 47 c k t H d
def teller_within (base : Nat) (t0 t1 : V) (H : Heap) : Option (Out × Heap) := teller_within_C base teller_within_c (teller_within_e base) [(0, t0), (1, t1)] H []
theorem teller_within_eq (base : Nat) (t0 t1 : V) (H : Heap) : teller_within base t0 t1 H =
 beff (oVar H t0) fun v0 h1 =>
 beff (oVar h1 t1) fun v2 h3 =>
 bnd (oLoad true 6 h3 v0) fun v4 =>
 bcall (E n_teller_own [v4] h3) (fun v5 h6 =>
 bnd (oExtract v5 0) fun v7 =>
 bnd (oExtract v5 1) fun v8 =>
 bnd (oExtract v5 2) fun v9 =>
 bnd (oFieldPtr v0 5) fun v10 =>
 bnd (oLoad false 1 h6 v10) fun v11 =>
 bnd (oLenSl v11) fun v12 =>
 bnd (oUn .not v7) fun v13 =>
 bnd (gua v13 false (oMove v12) (some (.tup []))) fun v14 =>
 bnd (gua v13 false (oMove v8) (some (.tup []))) fun v15 =>
 bnd (gua v13 false (oBin .lss 6 v14 v15) (some (.tup []))) fun v16 =>
 bnd (oPick v13 (.bool true) v16) fun v17 =>
 bnd (gua v17 false (oMove v9) (some (.tup []))) fun v18 =>
 bnd (gua v17 false (oBin .geq 6 v18 (.int .i64 0)) (some (.tup []))) fun v19 =>
 bnd (gua v17 false (oMove v19) (some (.tup []))) fun v20 =>
 bnd (gua v20 true (oMove v12) (some (.tup []))) fun v21 =>
 bnd (gua v20 true (oMove v9) (some (.tup []))) fun v22 =>
 bnd (gua v20 true (oBin .gtr 6 v21 v22) (some (.tup []))) fun v23 =>
 bnd (gua v17 false (oPick v20 v23 (.bool false)) (some (.tup []))) fun v24 =>
 bnd (oPick v17 (.bool true) v24) fun v25 =>
 bnd (gua v25 false (oMove v12) (some (.tup []))) fun v26 =>
 bnd (gua v25 false (oBin .gtr 6 v26 (.int .i64 0)) (some (.tup []))) fun v27 =>
 bnd (gua v25 false (oMove v27) (some (.tup []))) fun v28 =>
 bnd (gua v28 true (oLoad false 1 h6 v2) (some (.tup []))) fun v29 =>
 bnd (gua v28 true (oBin .eql 6 v29 (.int .i64 0)) (some (.tup []))) fun v30 =>
 bnd (gua v25 false (oPick v28 v30 (.bool false)) (some (.tup []))) fun v31 =>
 bnd (oPick v25 (.bool true) v31) fun v32 =>
 cnd v32
 (rt false base (.bool false) h6)
 (bnd (oFieldPtr v0 5) fun v33 =>
 bnd (oLoad false 1 h6 v33) fun v34 =>
 bnd (oMkFn n_teller_within_1 [v2]) fun v35 =>
 bcall (E n_slices_ContainsFunc_api_Expr_api_Expr [v34, v35] h6) (fun v36 h37 =>
 bnd (oUn .not v36) fun v38 =>
 rt false base v38 h37)
 (fun v36 h37 => pn false base v36 h37)))
 (fun v5 h6 => pn false base v5 h6) := by kernel_rfl
theorem teller_within_E (t0 t1 : V) (H : Heap) : E n_teller_within [t0, t1] H = teller_within H.length t0 t1 H := (EV_at Tryd.func38 (by kernel_rfl) (by kernel_rfl) (by kernel_rfl)).trans (by kernel_rfl)

def teller_texts_c : Code := bodyOf Tryd.f44
def teller_texts_ks : Ks := []
def teller_texts_e (base : Nat) : KC (Out × Heap) := xEnd Tryd.prog D false base 8 Tryd.f44.results.toList
def teller_texts_C (base : Nat) (c : Code) (k : KC (Out × Heap)) (t : Ts) (H : Heap) (d : Ds) : Option (Out × Heap) := xC Tryd.prog base false teller_texts_ks E 8 c k t H d
def teller_texts (base : Nat) (t0 t1 : V) (H : Heap) : Option (Out × Heap) := teller_texts_C base teller_texts_c (teller_texts_e base) [(0, t0), (1, t1)] H []
theorem teller_texts_eq (base : Nat) (t0 t1 : V) (H : Heap) : teller_texts base t0 t1 H =
 beff (oVar H t1) fun v0 h1 =>
 bnd (oMkFn n_teller_texts_1 [v0]) fun v2 =>
 bcall (E n_teller_each_api_Expr [t0, v2] h1) (fun v3 h4 =>
 rt false base v3 h4)
 (fun v3 h4 => pn false base v3 h4) := by kernel_rfl
theorem teller_texts_E (t0 t1 : V) (H : Heap) : E n_teller_texts [t0, t1] H = teller_texts H.length t0 t1 H := (EV_at Tryd.func44 (by kernel_rfl) (by kernel_rfl) (by kernel_rfl)).trans (by kernel_rfl)

def teller_often_c : Code := bodyOf Tryd.f45
def teller_often_ks : Ks := [(6, [1, 3]), (10, [3])]
def teller_often_e (base : Nat) : KC (Out × Heap) := xEnd Tryd.prog D false base 29 Tryd.f45.results.toList
def teller_often_C (base : Nat) (c : Code) (k : KC (Out × Heap)) (t : Ts) (H : Heap) (d : Ds) : Option (Out × Heap) := xC Tryd.prog base false teller_often_ks E 29 c k t H d
def teller_often_j2 (base : Nat) (t3 : V) (H : Heap) : Option (Out × Heap) :=
teller_often_C base (cAt [1, 1, 1, 1, 1] teller_often_c) (teller_often_e base) [(3, t3)] H []
theorem teller_often_j2_eq (base : Nat) (t3 : V) (H : Heap) : teller_often_j2 base t3 H =
 rt false base t3 H := by kernel_rfl
def teller_often_j1 (base : Nat) (t1 t3 : V) (H : Heap) : Option (Out × Heap) :=
teller_often_C base (cAt [1, 1, 1, 1] teller_often_c) (teller_often_e base) [(1, t1), (3, t3)] H []
theorem teller_often_j1_eq (base : Nat) (t1 t3 : V) (H : Heap) : teller_often_j1 base t1 t3 H =
 bnd (oFieldPtr t1 4) fun v12 =>
 bnd (oLoad false 1 H v12) fun v13 =>
 bnd (oFieldPtr t1 3) fun v14 =>
 bnd (oLoad false 1 H v14) fun v15 =>
 bnd (oBin .neq 6 v13 v15) fun v16 =>
 cnd v16
 (bnd (oBin .add 6 t3 (.str [42])) fun v17 =>
 bnd (oFieldPtr t1 4) fun v18 =>
 bnd (oLoad false 1 H v18) fun v19 =>
 bnd (oBin .geq 6 v19 (.int .i64 0)) fun v20 =>
 cnd v20
 (bnd (oFieldPtr t1 4) fun v21 =>
 bnd (oLoad false 1 H v21) fun v22 =>
 bcall (E n_strconv_Itoa [v22] H) (fun v23 h24 =>
 bnd (oBin .add 6 v17 v23) fun v25 =>
 teller_often_j2 base v25 h24)
 (fun v23 h24 => pn false base v23 h24))
 (teller_often_j2 base v17 H))
 (teller_often_j2 base t3 H) := by kernel_rfl
def teller_often (base : Nat) (t0 : V) (H : Heap) : Option (Out × Heap) := teller_often_C base teller_often_c (teller_often_e base) [(0, t0)] H []
theorem teller_often_eq (base : Nat) (t0 : V) (H : Heap) : teller_often base t0 H =
 beff (oVar H t0) fun v0 h1 =>
 bnd (oFieldPtr v0 4) fun v2 =>
 bnd (oLoad false 1 h1 v2) fun v3 =>
 bnd (oBin .eql 6 v3 (.int .i64 0)) fun v4 =>
 cnd v4
 (rt false base (.str [48]) h1)
 (bnd (oFieldPtr v0 3) fun v5 =>
 bnd (oLoad false 1 h1 v5) fun v6 =>
 bnd (oBin .gtr 6 v6 (.int .i64 0)) fun v7 =>
 cnd v7
 (bnd (oFieldPtr v0 3) fun v8 =>
 bnd (oLoad false 1 h1 v8) fun v9 =>
 bcall (E n_strconv_Itoa [v9] h1) (fun v10 h11 =>
 teller_often_j1 base v0 v10 h11)
 (fun v10 h11 => pn false base v10 h11))
 (teller_often_j1 base v0 (.str []) h1)) := by kernel_rfl
theorem teller_often_E (t0 : V) (H : Heap) : E n_teller_often [t0] H = teller_often H.length t0 H := (EV_at Tryd.func45 (by kernel_rfl) (by kernel_rfl) (by kernel_rfl)).trans (by kernel_rfl)

def teller_numbers_c : Code := bodyOf Tryd.f46
def teller_numbers_ks : Ks := []
def teller_numbers_e (base : Nat) : KC (Out × Heap) := xEnd Tryd.prog D false base 10 Tryd.f46.results.toList
def teller_numbers_C (base : Nat) (c : Code) (k : KC (Out × Heap)) (t : Ts) (H : Heap) (d : Ds) : Option (Out × Heap) := xC Tryd.prog base false teller_numbers_ks E 10 c k t H d
def teller_numbers (base : Nat) (t0 t1 : V) (H : Heap) : Option (Out × Heap) := teller_numbers_C base teller_numbers_c (teller_numbers_e base) [(0, t0), (1, t1)] H []
theorem teller_numbers_eq (base : Nat) (t0 t1 : V) (H : Heap) : teller_numbers base t0 t1 H =
 bcall (E n_teller_each_int [t0, (.fn n_teller_digits [])] H) (fun v0 h1 =>
 bcall (E n_strings_Join [v0, t1] h1) (fun v2 h3 =>
 bnd (oBin .add 6 (.str [37, 120]) v2) fun v4 =>
 rt false base v4 h3)
 (fun v2 h3 => pn false base v2 h3))
 (fun v0 h1 => pn false base v0 h1) := by kernel_rfl
theorem teller_numbers_E (t0 t1 : V) (H : Heap) : E n_teller_numbers [t0, t1] H = teller_numbers H.length t0 t1 H := (EV_at Tryd.func46 (by kernel_rfl) (by kernel_rfl) (by kernel_rfl)).trans (by kernel_rfl)

def ref03_reader_name_c : Code := bodyOf Tryd.f47
def ref03_reader_name_ks : Ks := [(3, [0, 3, 4]), (9, [0, 3]), (11, [3])]
def ref03_reader_name_e (base : Nat) : KC (Out × Heap) := xEnd Tryd.prog D false base 47 Tryd.f47.results.toList
def ref03_reader_name_C (base : Nat) (c : Code) (k : KC (Out × Heap)) (t : Ts) (H : Heap) (d : Ds) : Option (Out × Heap) := xC Tryd.prog base false ref03_reader_name_ks E 47 c k t H d
def ref03_reader_name_l1 (base : Nat) (t0 t3 t4 : V) (H : Heap) : Option (Out × Heap) :=
iterL (fun t H d again => ref03_reader_name_C base (cAt [1, 1, 0, 1, 0, 0] ref03_reader_name_c) (loopK ref03_reader_name_ks (cAt [1, 1, 0, 1, 0, 0] ref03_reader_name_c) again ((blockK 0 ((seqK (fun _ t => ref03_reader_name_C base (cAt [1, 1, 1] ref03_reader_name_c) (ref03_reader_name_e base) (trimA ref03_reader_name_ks (cAt [1, 1, 1] ref03_reader_name_c) t)) (ref03_reader_name_e base)))))) t H d) [(0, t0), (3, t3), (4, t4)] H []
def ref03_reader_name_j3 (base : Nat) (t3 : V) (H : Heap) : Option (Out × Heap) :=
ref03_reader_name_C base (cAt [1, 1, 1, 1, 1] ref03_reader_name_c) (ref03_reader_name_e base) [(3, t3)] H []
theorem ref03_reader_name_j3_eq (base : Nat) (t3 : V) (H : Heap) : ref03_reader_name_j3 base t3 H =
 rt false base t3 H := by kernel_rfl
def ref03_reader_name_j2 (base : Nat) (t0 t3 : V) (H : Heap) : Option (Out × Heap) :=
ref03_reader_name_C base (cAt [1, 1, 1, 1] ref03_reader_name_c) (ref03_reader_name_e base) [(0, t0), (3, t3)] H []
theorem ref03_reader_name_j2_eq (base : Nat) (t0 t3 : V) (H : Heap) : ref03_reader_name_j2 base t0 t3 H =
 bnd (oLenStr t3) fun v35 =>
 bnd (oBin .gtr 6 v35 (.int .i64 40)) fun v36 =>
 cnd v36
 (bcall (E n_ref03_reader_fail [t0, (.int .i64 2)] H) (fun v37 h38 =>
 ref03_reader_name_j3 base t3 h38)
 (fun v37 h38 => pn false base v37 h38))
 (ref03_reader_name_j3 base t3 H) := by kernel_rfl
theorem ref03_reader_name_l1_eq (base : Nat) (t0 t3 t4 : V) (H : Heap) : ref03_reader_name_l1 base t0 t3 t4 H =
 bcall (E n_ref03_alpha [t4] H) (fun v2 h3 =>
 bnd (gua v2 false (oMove t3) (some (.tup []))) fun v4 =>
 bnd (gua v2 false (oBin .neq 6 v4 (.str [])) (some (.tup []))) fun v5 =>
 bnd (gua v2 false (oMove v5) (some (.tup []))) fun v6 =>
 bnd (gua v6 true (oMove t4) (some (.tup []))) fun v7 =>
 bcall (gua v6 true (E n_ref03_digit [v7] h3) (some (.ret (.tup []), h3))) (fun v8 h9 =>
 bnd (gua v6 true (oMove v8) (some (.tup []))) fun v10 =>
 bnd (gua v10 false (oMove t4) (some (.tup []))) fun v11 =>
 bnd (gua v10 false (oBin .eql 6 v11 (.int .i64 45)) (some (.tup []))) fun v12 =>
 bnd (gua v6 true (oPick v10 (.bool true) v12) (some (.tup []))) fun v13 =>
 bnd (gua v2 false (oPick v6 v13 (.bool false)) (some (.tup []))) fun v14 =>
 bnd (oPick v2 (.bool true) v14) fun v15 =>
 cnd v15
 (bnd (oIntTo .u8 t4) fun v16 =>
 bcall (E n_ref03_lower [v16] h9) (fun v17 h18 =>
 bnd (oLit 1 1 (.int .u8 0) [(0, v17)]) fun v19 =>
 bnd (oText h18 v19) fun v20 =>
 bnd (oBin .add 6 t3 v20) fun v21 =>
 bnd (oNil t0) fun v22 =>
 bnd (oFieldPtr v22 1) fun v23 =>
 bnd (oLoad false 1 h18 v23) fun v24 =>
 bnd (oBin .add 6 v24 (.int .i64 1)) fun v25 =>
 bnd (oNil t0) fun v26 =>
 bnd (oFieldPtr v26 1) fun v27 =>
 beff (oStore base 1 h18 v27 v25) fun v28 h29 =>
 bcall (E n_ref03_reader_at [t0, (.int .i64 0)] h29) (fun v30 h31 =>
 ref03_reader_name_l1 base t0 v21 v30 h31)
 (fun v30 h31 => pn false base v30 h31))
 (fun v17 h18 => pn false base v17 h18))
 (bnd (oBin .eql 6 t3 (.str [])) fun v32 =>
 cnd v32
 (bcall (E n_ref03_reader_fail [t0, (.int .i64 20)] h9) (fun v33 h34 =>
 ref03_reader_name_j2 base t0 t3 h34)
 (fun v33 h34 => pn false base v33 h34))
 (ref03_reader_name_j2 base t0 t3 h9)))
 (fun v8 h9 => pn false base v8 h9))
 (fun v2 h3 => pn false base v2 h3) := (loop_eq (cAt [1, 1, 0, 1, 0, 0] ref03_reader_name_c) ((blockK 0 ((seqK (fun _ t => ref03_reader_name_C base (cAt [1, 1, 1] ref03_reader_name_c) (ref03_reader_name_e base) (trimA ref03_reader_name_ks (cAt [1, 1, 1] ref03_reader_name_c) t)) (ref03_reader_name_e base))))) _ H []).trans (by kernel_rfl)
def ref03_reader_name (base : Nat) (t0 : V) (H : Heap) : Option (Out × Heap) := ref03_reader_name_C base ref03_reader_name_c (ref03_reader_name_e base) [(0, t0)] H []
theorem ref03_reader_name_eq (base : Nat) (t0 : V) (H : Heap) : ref03_reader_name base t0 H =
 bcall (E n_ref03_reader_at [t0, (.int .i64 0)] H) (fun v0 h1 =>
 ref03_reader_name_l1 base t0 (.str []) v0 h1)
 (fun v0 h1 => pn false base v0 h1) := by kernel_rfl
theorem ref03_reader_name_E (t0 : V) (H : Heap) : E n_ref03_reader_name [t0] H = ref03_reader_name H.length t0 H := (EV_at Tryd.func47 (by kernel_rfl) (by kernel_rfl) (by kernel_rfl)).trans (by kernel_rfl)

def ref03_reader_skip_c : Code := bodyOf Tryd.f48
def ref03_reader_skip_ks : Ks := [(2, [0, 3])]
def ref03_reader_skip_e (base : Nat) : KC (Out × Heap) := xEnd Tryd.prog D false base 51 Tryd.f48.results.toList
def ref03_reader_skip_C (base : Nat) (c : Code) (k : KC (Out × Heap)) (t : Ts) (H : Heap) (d : Ds) : Option (Out × Heap) := xC Tryd.prog base false ref03_reader_skip_ks E 51 c k t H d
def ref03_reader_skip_l1 (base : Nat) (t0 t3 : V) (H : Heap) : Option (Out × Heap) :=
iterL (fun t H d again => ref03_reader_skip_C base (cAt [1, 1, 0, 0, 0] ref03_reader_skip_c) (loopK ref03_reader_skip_ks (cAt [1, 1, 0, 0, 0] ref03_reader_skip_c) again ((blockK 0 ((seqK (fun _ t => ref03_reader_skip_C base (cAt [1, 1, 1] ref03_reader_skip_c) (ref03_reader_skip_e base) (trimA ref03_reader_skip_ks (cAt [1, 1, 1] ref03_reader_skip_c) t)) (ref03_reader_skip_e base)))))) t H d) [(0, t0), (3, t3)] H []
theorem ref03_reader_skip_l1_eq (base : Nat) (t0 t3 : V) (H : Heap) : ref03_reader_skip_l1 base t0 t3 H =
 bnd (oNil t0) fun v3 =>
 bnd (oFieldPtr v3 2) fun v4 =>
 bnd (oLoad false 1 H v4) fun v5 =>
 bnd (oBin .eql 6 v5 (.int .i64 0)) fun v6 =>
 cnd v6
 (bcall (E n_ref03_reader_ends [t0] H) (fun v7 h8 =>
 bcall (E n_ref03_reader_at [t0, (.int .i64 0)] h8) (fun v9 h10 =>
 bcall (E n_ref03_blank [v9] h10) (fun v11 h12 =>
 cnd v11
 (bnd (oNil t0) fun v13 =>
 bnd (oFieldPtr v13 1) fun v14 =>
 bnd (oLoad false 1 h12 v14) fun v15 =>
 bnd (oBin .add 6 v15 (.int .i64 1)) fun v16 =>
 bnd (oNil t0) fun v17 =>
 bnd (oFieldPtr v17 1) fun v18 =>
 beff (oStore base 1 h12 v18 v16) fun v19 h20 =>
 ref03_reader_skip_l1 base t0 t3 h20)
 (bnd (oBin .gtr 6 v7 (.int .i64 0)) fun v21 =>
 bnd (gua v21 true (oMove t0) (some (.tup []))) fun v22 =>
 bnd (gua v21 true (oMove v7) (some (.tup []))) fun v23 =>
 bcall (gua v21 true (E n_ref03_reader_at [v22, v23] h12) (some (.ret (.tup []), h12))) (fun v24 h25 =>
 bcall (gua v21 true (E n_ref03_blank [v24] h25) (some (.ret (.tup []), h25))) (fun v26 h27 =>
 bnd (oPick v21 v26 (.bool false)) fun v28 =>
 cnd v28
 (bnd (oNil t0) fun v29 =>
 bnd (oFieldPtr v29 1) fun v30 =>
 bnd (oLoad false 1 h27 v30) fun v31 =>
 bnd (oBin .add 6 v31 v7) fun v32 =>
 bnd (oNil t0) fun v33 =>
 bnd (oFieldPtr v33 1) fun v34 =>
 beff (oStore base 1 h27 v34 v32) fun v35 h36 =>
 ref03_reader_skip_l1 base t0 t3 h36)
 (bnd (oNil t0) fun v37 =>
 bnd (oFieldPtr v37 1) fun v38 =>
 bnd (oLoad false 1 h27 v38) fun v39 =>
 bnd (oBin .gtr 6 v39 t3) fun v40 =>
 rt false base v40 h27))
 (fun v26 h27 => pn false base v26 h27))
 (fun v24 h25 => pn false base v24 h25)))
 (fun v11 h12 => pn false base v11 h12))
 (fun v9 h10 => pn false base v9 h10))
 (fun v7 h8 => pn false base v7 h8))
 (rt false base (.bool false) H) := (loop_eq (cAt [1, 1, 0, 0, 0] ref03_reader_skip_c) ((blockK 0 ((seqK (fun _ t => ref03_reader_skip_C base (cAt [1, 1, 1] ref03_reader_skip_c) (ref03_reader_skip_e base) (trimA ref03_reader_skip_ks (cAt [1, 1, 1] ref03_reader_skip_c) t)) (ref03_reader_skip_e base))))) _ H []).trans (by kernel_rfl)
def ref03_reader_skip (base : Nat) (t0 : V) (H : Heap) : Option (Out × Heap) := ref03_reader_skip_C base ref03_reader_skip_c (ref03_reader_skip_e base) [(0, t0)] H []
theorem ref03_reader_skip_eq (base : Nat) (t0 : V) (H : Heap) : ref03_reader_skip base t0 H =
 bnd (oNil t0) fun v0 =>
 bnd (oFieldPtr v0 1) fun v1 =>
 bnd (oLoad false 1 H v1) fun v2 =>
 ref03_reader_skip_l1 base t0 v2 H := by kernel_rfl
theorem ref03_reader_skip_E (t0 : V) (H : Heap) : E n_ref03_reader_skip [t0] H = ref03_reader_skip H.length t0 H := (EV_at Tryd.func48 (by kernel_rfl) (by kernel_rfl) (by kernel_rfl)).trans (by kernel_rfl)

def ref03_reader_alt_c : Code := bodyOf Tryd.f49
def ref03_reader_alt_ks : Ks := [(2, [0, 1, 4, 5]), (10, [4, 5])]
def ref03_reader_alt_e (base : Nat) : KC (Out × Heap) := xEnd Tryd.prog D false base 52 Tryd.f49.results.toList
def ref03_reader_alt_C (base : Nat) (c : Code) (k : KC (Out × Heap)) (t : Ts) (H : Heap) (d : Ds) : Option (Out × Heap) := xC Tryd.prog base true ref03_reader_alt_ks E 52 c k t H d
def ref03_reader_alt_l1 (base : Nat) (t0 t1 t4 t5 : V) (H : Heap) : Option (Out × Heap) :=
iterL (fun t H d again => ref03_reader_alt_C base (cAt [1, 1, 0, 0, 0] ref03_reader_alt_c) (loopK ref03_reader_alt_ks (cAt [1, 1, 0, 0, 0] ref03_reader_alt_c) again ((blockK 0 ((seqK (fun _ t => ref03_reader_alt_C base (cAt [1, 1, 1] ref03_reader_alt_c) (ref03_reader_alt_e base) (trimA ref03_reader_alt_ks (cAt [1, 1, 1] ref03_reader_alt_c) t)) (ref03_reader_alt_e base)))))) t H d) [(0, t0), (1, t1), (4, t4), (5, t5)] H []
def ref03_reader_alt_j2 (base : Nat) (t4 t5 : V) (H : Heap) : Option (Out × Heap) :=
ref03_reader_alt_C base (cAt [1, 1, 1] ref03_reader_alt_c) (ref03_reader_alt_e base) [(4, t4), (5, t5)] H []
theorem ref03_reader_alt_j2_eq (base : Nat) (t4 t5 : V) (H : Heap) : ref03_reader_alt_j2 base t4 t5 H =
 bnd (oLenSl t5) fun v22 =>
 bnd (oBin .eql 6 v22 (.int .i64 1)) fun v23 =>
 cnd v23
 (bnd (oIndexPtr 6 t5 (.int .i64 0)) fun v24 =>
 bnd (oLoad true 6 H v24) fun v25 =>
 beff (oStore base 6 H t4 v25) fun v26 h27 =>
 bnd (oLoad true 6 h27 t4) fun v28 =>
 rt false base v28 h27)
 (bnd (oBuild [(.int .i64 0), (.str []), .nils, (.int .i64 0), (.int .i64 0), .nils] [(0, 1), (1, 1), (2, 1), (3, 1), (4, 1), (5, 1)] [(0, (.int .i64 1)), (5, t5)]) fun v29 =>
 beff (oStore base 6 H t4 v29) fun v30 h31 =>
 bnd (oLoad true 6 h31 t4) fun v32 =>
 rt false base v32 h31) := by kernel_rfl
theorem ref03_reader_alt_l1_eq (base : Nat) (t0 t1 t4 t5 : V) (H : Heap) : ref03_reader_alt_l1 base t0 t1 t4 t5 H =
 bnd (oNil t0) fun v6 =>
 bnd (oFieldPtr v6 2) fun v7 =>
 bnd (oLoad false 1 H v7) fun v8 =>
 bnd (oBin .eql 6 v8 (.int .i64 0)) fun v9 =>
 cnd v9
 (bnd (oNil t0) fun v10 =>
 bnd (oFieldPtr v10 1) fun v11 =>
 bnd (oLoad false 1 H v11) fun v12 =>
 bcall (E n_ref03_reader_skip [t0] H) (fun v13 h14 =>
 bcall (E n_ref03_reader_at [t0, (.int .i64 0)] h14) (fun v15 h16 =>
 bnd (oBin .neq 6 v15 (.int .i64 47)) fun v17 =>
 cnd v17
 (bnd (oNil t0) fun v18 =>
 bnd (oFieldPtr v18 1) fun v19 =>
 beff (oStore base 1 h16 v19 v12) fun v20 h21 =>
 ref03_reader_alt_j2 base t4 t5 h21)
 (bnd (oNil t0) fun v33 =>
 bnd (oFieldPtr v33 1) fun v34 =>
 bnd (oLoad false 1 h16 v34) fun v35 =>
 bnd (oBin .add 6 v35 (.int .i64 1)) fun v36 =>
 bnd (oNil t0) fun v37 =>
 bnd (oFieldPtr v37 1) fun v38 =>
 beff (oStore base 1 h16 v38 v36) fun v39 h40 =>
 bcall (E n_ref03_reader_skip [t0] h40) (fun v41 h42 =>
 bcall (E n_ref03_reader_seq [t0, t1] h42) (fun v43 h44 =>
 bnd (oLit 6 1 (.agg [(.int .i64 0), (.str []), (.vs []), (.int .i64 0), (.int .i64 0), (.vs [])]) [(0, v43)]) fun v45 =>
 beff (oAppend base 6 88 true t5 v45 h44) fun v46 h47 =>
 ref03_reader_alt_l1 base t0 t1 t4 v46 h47)
 (fun v43 h44 => pn false base v43 h44))
 (fun v41 h42 => pn false base v41 h42)))
 (fun v15 h16 => pn false base v15 h16))
 (fun v13 h14 => pn false base v13 h14))
 (ref03_reader_alt_j2 base t4 t5 H) := (loop_eq (cAt [1, 1, 0, 0, 0] ref03_reader_alt_c) ((blockK 0 ((seqK (fun _ t => ref03_reader_alt_C base (cAt [1, 1, 1] ref03_reader_alt_c) (ref03_reader_alt_e base) (trimA ref03_reader_alt_ks (cAt [1, 1, 1] ref03_reader_alt_c) t)) (ref03_reader_alt_e base))))) _ H []).trans (by kernel_rfl)
def ref03_reader_alt (base : Nat) (t0 t1 : V) (H : Heap) : Option (Out × Heap) := ref03_reader_alt_C base ref03_reader_alt_c (ref03_reader_alt_e base) [(0, t0), (1, t1)] H []
theorem ref03_reader_alt_eq (base : Nat) (t0 t1 : V) (H : Heap) : ref03_reader_alt base t0 t1 H =
 beff (oVar H (.agg [(.int .i64 0), (.str []), .nils, (.int .i64 0), (.int .i64 0), .nils])) fun v0 h1 =>
 bcall (E n_ref03_reader_seq [t0, t1] h1) (fun v2 h3 =>
 beff (oRow 1 6 true [(.int .i64 0), (.str []), .nils, (.int .i64 0), (.int .i64 0), .nils] h3 [(0, v2)]) fun v4 h5 =>
 ref03_reader_alt_l1 base t0 t1 v0 v4 h5)
 (fun v2 h3 => pn false base v2 h3) := by kernel_rfl
theorem ref03_reader_alt_E (t0 t1 : V) (H : Heap) : E n_ref03_reader_alt [t0, t1] H = ref03_reader_alt H.length t0 t1 H := (EV_at Tryd.func49 (by kernel_rfl) (by kernel_rfl) (by kernel_rfl)).trans (by kernel_rfl)

def teller_own_c : Code := bodyOf Tryd.f51
def teller_own_ks : Ks := [(19, [2, 3, 4, 6])]
def teller_own_e (base : Nat) : KC (Out × Heap) := xEnd Tryd.prog D false base 124 Tryd.f51.results.toList
def teller_own_C (base : Nat) (c : Code) (k : KC (Out × Heap)) (t : Ts) (H : Heap) (d : Ds) : Option (Out × Heap) := xC Tryd.prog base false teller_own_ks E 124 c k t H d
def teller_own_j1 (base : Nat) (t2 t3 t4 t6 : V) (H : Heap) : Option (Out × Heap) :=
teller_own_C base (cAt [1, 1, 1, 1, 1] teller_own_c) (teller_own_e base) [(2, t2), (3, t3), (4, t4), (6, t6)] H []
theorem teller_own_j1_eq (base : Nat) (t2 t3 t4 t6 : V) (H : Heap) : teller_own_j1 base t2 t3 t4 t6 H =
 bnd (gua t2 true (oFieldPtr t6 1) (some (.tup []))) fun v13 =>
 bnd (gua t2 true (oLoad false 1 H v13) (some (.tup []))) fun v14 =>
 bnd (gua t2 true (oBin .eql 6 v14 (.str [])) (some (.tup []))) fun v15 =>
 bnd (oPick t2 v15 (.bool false)) fun v16 =>
 bnd (gua v16 true (oFieldPtr t6 2) (some (.tup []))) fun v17 =>
 bnd (gua v16 true (oLoad false 1 H v17) (some (.tup []))) fun v18 =>
 bnd (gua v16 true (oLenSl v18) (some (.tup []))) fun v19 =>
 bnd (gua v16 true (oBin .eql 6 v19 (.int .i64 0)) (some (.tup []))) fun v20 =>
 bnd (oPick v16 v20 (.bool false)) fun v21 =>
 bnd (gua v21 true (oFieldPtr t6 3) (some (.tup []))) fun v22 =>
 bnd (gua v21 true (oLoad false 1 H v22) (some (.tup []))) fun v23 =>
 bnd (gua v21 true (oBin .eql 6 v23 (.int .i64 0)) (some (.tup []))) fun v24 =>
 bnd (oPick v21 v24 (.bool false)) fun v25 =>
 bnd (gua v25 true (oFieldPtr t6 4) (some (.tup []))) fun v26 =>
 bnd (gua v25 true (oLoad false 1 H v26) (some (.tup []))) fun v27 =>
 bnd (gua v25 true (oBin .eql 6 v27 (.int .i64 0)) (some (.tup []))) fun v28 =>
 bnd (oPick v25 v28 (.bool false)) fun v29 =>
 rt false base (.tup [v29, t3, t4]) H := by kernel_rfl
def teller_own (base : Nat) (t0 : V) (H : Heap) : Option (Out × Heap) := teller_own_C base teller_own_c (teller_own_e base) [(0, t0)] H []
theorem teller_own_eq (base : Nat) (t0 : V) (H : Heap) : teller_own base t0 H =
 beff (oVar H t0) fun v0 h1 =>
 bnd (oLoad true 6 h1 v0) fun v2 =>
 beff (oVar h1 (.agg [(.int .i64 0), (.str []), .nils, (.int .i64 0), (.int .i64 0), .nils])) fun v3 h4 =>
 beff (oStore base 6 h4 v3 v2) fun v5 h6 =>
 bnd (oFieldPtr v3 5) fun v7 =>
 beff (oStore base 1 h6 v7 .nils) fun v8 h9 =>
 bnd (oFieldPtr v0 0) fun v10 =>
 bnd (oLoad false 1 h9 v10) fun v11 =>
 bnd (oBin .eql 6 v11 (.int .i64 1)) fun v12 =>
 cnd v12
 (cnd v12
 (teller_own_j1 base (.bool true) (.int .i64 2) (.int .i64 (-1)) v3 h9)
 (bnd (oBin .eql 6 v11 (.int .i64 3)) fun v30 =>
 cnd v30
 (bnd (oFieldPtr v0 3) fun v31 =>
 bnd (oLoad false 1 h9 v31) fun v32 =>
 bnd (oBin .geq 6 v32 (.int .i64 0)) fun v33 =>
 bnd (gua v33 true (oFieldPtr v0 3) (some (.tup []))) fun v34 =>
 bnd (gua v33 true (oLoad false 1 h9 v34) (some (.tup []))) fun v35 =>
 bnd (gua v33 true (oBin .leq 6 v35 (.int .i64 200)) (some (.tup []))) fun v36 =>
 bnd (oPick v33 v36 (.bool false)) fun v37 =>
 bnd (gua v37 true (oFieldPtr v0 4) (some (.tup []))) fun v38 =>
 bnd (gua v37 true (oLoad false 1 h9 v38) (some (.tup []))) fun v39 =>
 bnd (gua v37 true (oBin .eql 6 v39 (.int .i64 (-1))) (some (.tup []))) fun v40 =>
 bnd (gua v37 true (oMove v40) (some (.tup []))) fun v41 =>
 bnd (gua v41 false (oFieldPtr v0 4) (some (.tup []))) fun v42 =>
 bnd (gua v41 false (oLoad false 1 h9 v42) (some (.tup []))) fun v43 =>
 bnd (gua v41 false (oFieldPtr v0 3) (some (.tup []))) fun v44 =>
 bnd (gua v41 false (oLoad false 1 h9 v44) (some (.tup []))) fun v45 =>
 bnd (gua v41 false (oBin .geq 6 v43 v45) (some (.tup []))) fun v46 =>
 bnd (gua v41 false (oMove v46) (some (.tup []))) fun v47 =>
 bnd (gua v47 true (oFieldPtr v0 4) (some (.tup []))) fun v48 =>
 bnd (gua v47 true (oLoad false 1 h9 v48) (some (.tup []))) fun v49 =>
 bnd (gua v47 true (oBin .leq 6 v49 (.int .i64 200)) (some (.tup []))) fun v50 =>
 bnd (gua v41 false (oPick v47 v50 (.bool false)) (some (.tup []))) fun v51 =>
 bnd (gua v37 true (oPick v41 (.bool true) v51) (some (.tup []))) fun v52 =>
 bnd (oPick v37 v52 (.bool false)) fun v53 =>
 bnd (oFieldPtr v3 3) fun v54 =>
 beff (oStore base 1 h9 v54 (.int .i64 0)) fun v55 h56 =>
 bnd (oFieldPtr v3 4) fun v57 =>
 beff (oStore base 1 h56 v57 (.int .i64 0)) fun v58 h59 =>
 teller_own_j1 base v53 (.int .i64 1) (.int .i64 1) v3 h59)
 (bnd (oBin .eql 6 v11 (.int .i64 4)) fun v60 =>
 cnd v60
 (bnd (oFieldPtr v0 1) fun v61 =>
 bnd (oLoad false 1 h9 v61) fun v62 =>
 bcall (E n_teller_Name [v62] h9) (fun v63 h64 =>
 bnd (oFieldPtr v3 1) fun v65 =>
 beff (oStore base 1 h64 v65 (.str [])) fun v66 h67 =>
 teller_own_j1 base v63 (.int .i64 0) (.int .i64 0) v3 h67)
 (fun v63 h64 => pn false base v63 h64))
 (bnd (oBin .eql 6 v11 (.int .i64 5)) fun v68 =>
 cnd v68
 (bnd (oFieldPtr v0 1) fun v69 =>
 bnd (oLoad false 1 h9 v69) fun v70 =>
 bcall (E n_teller_folded [v70] h9) (fun v71 h72 =>
 bnd (oFieldPtr v3 1) fun v73 =>
 beff (oStore base 1 h72 v73 (.str [])) fun v74 h75 =>
 teller_own_j1 base v71 (.int .i64 0) (.int .i64 0) v3 h75)
 (fun v71 h72 => pn false base v71 h72))
 (bnd (oBin .eql 6 v11 (.int .i64 6)) fun v76 =>
 cnd v76
 (bnd (oFieldPtr v0 2) fun v77 =>
 bnd (oLoad false 1 h9 v77) fun v78 =>
 bnd (oLenSl v78) fun v79 =>
 bnd (oBin .gtr 6 v79 (.int .i64 0)) fun v80 =>
 bnd (gua v80 true (oFieldPtr v0 2) (some (.tup []))) fun v81 =>
 bnd (gua v80 true (oLoad false 1 h9 v81) (some (.tup []))) fun v82 =>
 bnd (gua v80 true (oLenSl v82) (some (.tup []))) fun v83 =>
 bnd (gua v80 true (oBin .leq 6 v83 (.int .i64 10000)) (some (.tup []))) fun v84 =>
 bnd (oPick v80 v84 (.bool false)) fun v85 =>
 bnd (gua v85 true (oFieldPtr v0 2) (some (.tup []))) fun v86 =>
 bnd (gua v85 true (oLoad false 1 h9 v86) (some (.tup []))) fun v87 =>
 bnd (gua v85 true (oMove (.fn n_teller_own_1 [])) (some (.tup []))) fun v88 =>
 bcall (gua v85 true (E n_slices_ContainsFunc_int_int [v87, v88] h9) (some (.ret (.tup []), h9))) (fun v89 h90 =>
 bnd (gua v85 true (oUn .not v89) (some (.tup []))) fun v91 =>
 bnd (oPick v85 v91 (.bool false)) fun v92 =>
 bnd (oFieldPtr v3 2) fun v93 =>
 beff (oStore base 1 h90 v93 .nils) fun v94 h95 =>
 teller_own_j1 base v92 (.int .i64 0) (.int .i64 0) v3 h95)
 (fun v89 h90 => pn false base v89 h90))
 (bnd (oBin .eql 6 v11 (.int .i64 7)) fun v96 =>
 cnd v96
 (bnd (oFieldPtr v0 2) fun v97 =>
 bnd (oLoad false 1 h9 v97) fun v98 =>
 bnd (oLenSl v98) fun v99 =>
 bnd (oBin .eql 6 v99 (.int .i64 2)) fun v100 =>
 bnd (gua v100 true (oFieldPtr v0 2) (some (.tup []))) fun v101 =>
 bnd (gua v100 true (oLoad false 1 h9 v101) (some (.tup []))) fun v102 =>
 bnd (gua v100 true (oMove (.fn n_teller_own_1 [])) (some (.tup []))) fun v103 =>
 bcall (gua v100 true (E n_slices_ContainsFunc_int_int [v102, v103] h9) (some (.ret (.tup []), h9))) (fun v104 h105 =>
 bnd (gua v100 true (oUn .not v104) (some (.tup []))) fun v106 =>
 bnd (oPick v100 v106 (.bool false)) fun v107 =>
 bnd (gua v107 true (oFieldPtr v0 2) (some (.tup []))) fun v108 =>
 bnd (gua v107 true (oLoad false 1 h105 v108) (some (.tup []))) fun v109 =>
 bnd (gua v107 true (oIndexPtr 1 v109 (.int .i64 0)) (some (.tup []))) fun v110 =>
 bnd (gua v107 true (oLoad false 1 h105 v110) (some (.tup []))) fun v111 =>
 bnd (gua v107 true (oFieldPtr v0 2) (some (.tup []))) fun v112 =>
 bnd (gua v107 true (oLoad false 1 h105 v112) (some (.tup []))) fun v113 =>
 bnd (gua v107 true (oIndexPtr 1 v113 (.int .i64 1)) (some (.tup []))) fun v114 =>
 bnd (gua v107 true (oLoad false 1 h105 v114) (some (.tup []))) fun v115 =>
 bnd (gua v107 true (oBin .leq 6 v111 v115) (some (.tup []))) fun v116 =>
 bnd (oPick v107 v116 (.bool false)) fun v117 =>
 bnd (oFieldPtr v3 2) fun v118 =>
 beff (oStore base 1 h105 v118 .nils) fun v119 h120 =>
 teller_own_j1 base v117 (.int .i64 0) (.int .i64 0) v3 h120)
 (fun v104 h105 => pn false base v104 h105))
 (teller_own_j1 base (.bool false) (.int .i64 0) (.int .i64 0) v3 h9)))))))
 (bnd (oBin .eql 6 v11 (.int .i64 2)) fun v121 =>
 cnd v121
 (teller_own_j1 base (.bool true) (.int .i64 2) (.int .i64 (-1)) v3 h9)
 (bnd (oBin .eql 6 v11 (.int .i64 3)) fun v122 =>
 cnd v122
 (bnd (oFieldPtr v0 3) fun v123 =>
 bnd (oLoad false 1 h9 v123) fun v124 =>
 bnd (oBin .geq 6 v124 (.int .i64 0)) fun v125 =>
 bnd (gua v125 true (oFieldPtr v0 3) (some (.tup []))) fun v126 =>
 bnd (gua v125 true (oLoad false 1 h9 v126) (some (.tup []))) fun v127 =>
 bnd (gua v125 true (oBin .leq 6 v127 (.int .i64 200)) (some (.tup []))) fun v128 =>
 bnd (oPick v125 v128 (.bool false)) fun v129 =>
 bnd (gua v129 true (oFieldPtr v0 4) (some (.tup []))) fun v130 =>
 bnd (gua v129 true (oLoad false 1 h9 v130) (some (.tup []))) fun v131 =>
 bnd (gua v129 true (oBin .eql 6 v131 (.int .i64 (-1))) (some (.tup []))) fun v132 =>
 bnd (gua v129 true (oMove v132) (some (.tup []))) fun v133 =>
 bnd (gua v133 false (oFieldPtr v0 4) (some (.tup []))) fun v134 =>
 bnd (gua v133 false (oLoad false 1 h9 v134) (some (.tup []))) fun v135 =>
 bnd (gua v133 false (oFieldPtr v0 3) (some (.tup []))) fun v136 =>
 bnd (gua v133 false (oLoad false 1 h9 v136) (some (.tup []))) fun v137 =>
 bnd (gua v133 false (oBin .geq 6 v135 v137) (some (.tup []))) fun v138 =>
 bnd (gua v133 false (oMove v138) (some (.tup []))) fun v139 =>
 bnd (gua v139 true (oFieldPtr v0 4) (some (.tup []))) fun v140 =>
 bnd (gua v139 true (oLoad false 1 h9 v140) (some (.tup []))) fun v141 =>
 bnd (gua v139 true (oBin .leq 6 v141 (.int .i64 200)) (some (.tup []))) fun v142 =>
 bnd (gua v133 false (oPick v139 v142 (.bool false)) (some (.tup []))) fun v143 =>
 bnd (gua v129 true (oPick v133 (.bool true) v143) (some (.tup []))) fun v144 =>
 bnd (oPick v129 v144 (.bool false)) fun v145 =>
 bnd (oFieldPtr v3 3) fun v146 =>
 beff (oStore base 1 h9 v146 (.int .i64 0)) fun v147 h148 =>
 bnd (oFieldPtr v3 4) fun v149 =>
 beff (oStore base 1 h148 v149 (.int .i64 0)) fun v150 h151 =>
 teller_own_j1 base v145 (.int .i64 1) (.int .i64 1) v3 h151)
 (bnd (oBin .eql 6 v11 (.int .i64 4)) fun v152 =>
 cnd v152
 (bnd (oFieldPtr v0 1) fun v153 =>
 bnd (oLoad false 1 h9 v153) fun v154 =>
 bcall (E n_teller_Name [v154] h9) (fun v155 h156 =>
 bnd (oFieldPtr v3 1) fun v157 =>
 beff (oStore base 1 h156 v157 (.str [])) fun v158 h159 =>
 teller_own_j1 base v155 (.int .i64 0) (.int .i64 0) v3 h159)
 (fun v155 h156 => pn false base v155 h156))
 (bnd (oBin .eql 6 v11 (.int .i64 5)) fun v160 =>
 cnd v160
 (bnd (oFieldPtr v0 1) fun v161 =>
 bnd (oLoad false 1 h9 v161) fun v162 =>
 bcall (E n_teller_folded [v162] h9) (fun v163 h164 =>
 bnd (oFieldPtr v3 1) fun v165 =>
 beff (oStore base 1 h164 v165 (.str [])) fun v166 h167 =>
 teller_own_j1 base v163 (.int .i64 0) (.int .i64 0) v3 h167)
 (fun v163 h164 => pn false base v163 h164))
 (bnd (oBin .eql 6 v11 (.int .i64 6)) fun v168 =>
 cnd v168
 (bnd (oFieldPtr v0 2) fun v169 =>
 bnd (oLoad false 1 h9 v169) fun v170 =>
 bnd (oLenSl v170) fun v171 =>
 bnd (oBin .gtr 6 v171 (.int .i64 0)) fun v172 =>
 bnd (gua v172 true (oFieldPtr v0 2) (some (.tup []))) fun v173 =>
 bnd (gua v172 true (oLoad false 1 h9 v173) (some (.tup []))) fun v174 =>
 bnd (gua v172 true (oLenSl v174) (some (.tup []))) fun v175 =>
 bnd (gua v172 true (oBin .leq 6 v175 (.int .i64 10000)) (some (.tup []))) fun v176 =>
 bnd (oPick v172 v176 (.bool false)) fun v177 =>
 bnd (gua v177 true (oFieldPtr v0 2) (some (.tup []))) fun v178 =>
 bnd (gua v177 true (oLoad false 1 h9 v178) (some (.tup []))) fun v179 =>
 bnd (gua v177 true (oMove (.fn n_teller_own_1 [])) (some (.tup []))) fun v180 =>
 bcall (gua v177 true (E n_slices_ContainsFunc_int_int [v179, v180] h9) (some (.ret (.tup []), h9))) (fun v181 h182 =>
 bnd (gua v177 true (oUn .not v181) (some (.tup []))) fun v183 =>
 bnd (oPick v177 v183 (.bool false)) fun v184 =>
 bnd (oFieldPtr v3 2) fun v185 =>
 beff (oStore base 1 h182 v185 .nils) fun v186 h187 =>
 teller_own_j1 base v184 (.int .i64 0) (.int .i64 0) v3 h187)
 (fun v181 h182 => pn false base v181 h182))
 (bnd (oBin .eql 6 v11 (.int .i64 7)) fun v188 =>
 cnd v188
 (bnd (oFieldPtr v0 2) fun v189 =>
 bnd (oLoad false 1 h9 v189) fun v190 =>
 bnd (oLenSl v190) fun v191 =>
 bnd (oBin .eql 6 v191 (.int .i64 2)) fun v192 =>
 bnd (gua v192 true (oFieldPtr v0 2) (some (.tup []))) fun v193 =>
 bnd (gua v192 true (oLoad false 1 h9 v193) (some (.tup []))) fun v194 =>
 bnd (gua v192 true (oMove (.fn n_teller_own_1 [])) (some (.tup []))) fun v195 =>
 bcall (gua v192 true (E n_slices_ContainsFunc_int_int [v194, v195] h9) (some (.ret (.tup []), h9))) (fun v196 h197 =>
 bnd (gua v192 true (oUn .not v196) (some (.tup []))) fun v198 =>
 bnd (oPick v192 v198 (.bool false)) fun v199 =>
 bnd (gua v199 true (oFieldPtr v0 2) (some (.tup []))) fun v200 =>
 bnd (gua v199 true (oLoad false 1 h197 v200) (some (.tup []))) fun v201 =>
 bnd (gua v199 true (oIndexPtr 1 v201 (.int .i64 0)) (some (.tup []))) fun v202 =>
 bnd (gua v199 true (oLoad false 1 h197 v202) (some (.tup []))) fun v203 =>
 bnd (gua v199 true (oFieldPtr v0 2) (some (.tup []))) fun v204 =>
 bnd (gua v199 true (oLoad false 1 h197 v204) (some (.tup []))) fun v205 =>
 bnd (gua v199 true (oIndexPtr 1 v205 (.int .i64 1)) (some (.tup []))) fun v206 =>
 bnd (gua v199 true (oLoad false 1 h197 v206) (some (.tup []))) fun v207 =>
 bnd (gua v199 true (oBin .leq 6 v203 v207) (some (.tup []))) fun v208 =>
 bnd (oPick v199 v208 (.bool false)) fun v209 =>
 bnd (oFieldPtr v3 2) fun v210 =>
 beff (oStore base 1 h197 v210 .nils) fun v211 h212 =>
 teller_own_j1 base v209 (.int .i64 0) (.int .i64 0) v3 h212)
 (fun v196 h197 => pn false base v196 h197))
 (teller_own_j1 base (.bool false) (.int .i64 0) (.int .i64 0) v3 h9))))))) := by kernel_rfl
theorem teller_own_E (t0 : V) (H : Heap) : E n_teller_own [t0] H = teller_own H.length t0 H := (EV_at Tryd.func51 (by kernel_rfl) (by kernel_rfl) (by kernel_rfl)).trans (by kernel_rfl)

def slices_ContainsFunc_api_Expr_api_Expr_c : Code := bodyOf Tryd.f52
def slices_ContainsFunc_api_Expr_api_Expr_ks : Ks := []
def slices_ContainsFunc_api_Expr_api_Expr_e (base : Nat) : KC (Out × Heap) := xEnd Tryd.prog D false base 9 Tryd.f52.results.toList
def slices_ContainsFunc_api_Expr_api_Expr_C (base : Nat) (c : Code) (k : KC (Out × Heap)) (t : Ts) (H : Heap) (d : Ds) : Option (Out × Heap) := xC Tryd.prog base false slices_ContainsFunc_api_Expr_api_Expr_ks E 9 c k t H d
def slices_ContainsFunc_api_Expr_api_Expr (base : Nat) (t0 t1 : V) (H : Heap) : Option (Out × Heap) := slices_ContainsFunc_api_Expr_api_Expr_C base slices_ContainsFunc_api_Expr_api_Expr_c (slices_ContainsFunc_api_Expr_api_Expr_e base) [(0, t0), (1, t1)] H []
theorem slices_ContainsFunc_api_Expr_api_Expr_eq (base : Nat) (t0 t1 : V) (H : Heap) : slices_ContainsFunc_api_Expr_api_Expr base t0 t1 H =
 bcall (E n_slices_IndexFunc_api_Expr_api_Expr [t0, t1] H) (fun v0 h1 =>
 bnd (oBin .geq 6 v0 (.int .i64 0)) fun v2 =>
 rt false base v2 h1)
 (fun v0 h1 => pn false base v0 h1) := by kernel_rfl
theorem slices_ContainsFunc_api_Expr_api_Expr_E (t0 t1 : V) (H : Heap) : E n_slices_ContainsFunc_api_Expr_api_Expr [t0, t1] H = slices_ContainsFunc_api_Expr_api_Expr H.length t0 t1 H := (EV_at Tryd.func52 (by kernel_rfl) (by kernel_rfl) (by kernel_rfl)).trans (by kernel_rfl)

def teller_within_1_c : Code := bodyOf Tryd.f53
def teller_within_1_ks : Ks := []
def teller_within_1_e (base : Nat) : KC (Out × Heap) := xEnd Tryd.prog D false base 9 Tryd.f53.results.toList
def teller_within_1_C (base : Nat) (c : Code) (k : KC (Out × Heap)) (t : Ts) (H : Heap) (d : Ds) : Option (Out × Heap) := xC Tryd.prog base false teller_within_1_ks E 9 c k t H d
def teller_within_1 (base : Nat) (t0 t1 : V) (H : Heap) : Option (Out × Heap) := teller_within_1_C base teller_within_1_c (teller_within_1_e base) [(0, t0), (1, t1)] H []
theorem teller_within_1_eq (base : Nat) (t0 t1 : V) (H : Heap) : teller_within_1 base t0 t1 H =
 beff (oVar H t0) fun v0 h1 =>
 bnd (oLoad true 6 h1 v0) fun v2 =>
 bnd (oLoad false 1 h1 t1) fun v3 =>
 bnd (oBin .sub 6 v3 (.int .i64 1)) fun v4 =>
 bcall (E n_teller_within [v2, v4] h1) (fun v5 h6 =>
 bnd (oUn .not v5) fun v7 =>
 rt false base v7 h6)
 (fun v5 h6 => pn false base v5 h6) := by kernel_rfl
theorem teller_within_1_E (t0 t1 : V) (H : Heap) : E n_teller_within_1 [t0, t1] H = teller_within_1 H.length t0 t1 H := (EV_at Tryd.func53 (by kernel_rfl) (by kernel_rfl) (by kernel_rfl)).trans (by kernel_rfl)

def teller_each_api_Expr_c : Code := bodyOf Tryd.f59
def teller_each_api_Expr_ks : Ks := [(3, [1, 5, 11, 12, 13])]
def teller_each_api_Expr_e (base : Nat) : KC (Out × Heap) := xEnd Tryd.prog D false base 26 Tryd.f59.results.toList
def teller_each_api_Expr_C (base : Nat) (c : Code) (k : KC (Out × Heap)) (t : Ts) (H : Heap) (d : Ds) : Option (Out × Heap) := xC Tryd.prog base false teller_each_api_Expr_ks E 26 c k t H d
def teller_each_api_Expr_l1 (base : Nat) (t1 t5 t11 t12 t13 : V) (H : Heap) : Option (Out × Heap) :=
iterL (fun t H d again => teller_each_api_Expr_C base (cAt [1, 1, 0, 1, 0, 0] teller_each_api_Expr_c) (loopK teller_each_api_Expr_ks (cAt [1, 1, 0, 1, 0, 0] teller_each_api_Expr_c) again ((blockK 0 ((seqK (fun _ t => teller_each_api_Expr_C base (cAt [1, 1, 1] teller_each_api_Expr_c) (teller_each_api_Expr_e base) (trimA teller_each_api_Expr_ks (cAt [1, 1, 1] teller_each_api_Expr_c) t)) (teller_each_api_Expr_e base)))))) t H d) [(1, t1), (5, t5), (11, t11), (12, t12), (13, t13)] H []
theorem teller_each_api_Expr_l1_eq (base : Nat) (t1 t5 t11 t12 t13 : V) (H : Heap) : teller_each_api_Expr_l1 base t1 t5 t11 t12 t13 H =
 bnd (oBin .lss 6 t13 t12) fun v4 =>
 cnd v4
 (bnd (oIndexPtr 6 t11 t13) fun v5 =>
 bnd (oLoad true 6 H v5) fun v6 =>
 beff (oVar H (.agg [(.int .i64 0), (.str []), .nils, (.int .i64 0), (.int .i64 0), .nils])) fun v7 h8 =>
 beff (oStore base 6 h8 v7 v6) fun v9 h10 =>
 bnd (oLoad true 6 h10 v7) fun v11 =>
 bcall (oDyn E t1 [v11] h10) (fun v12 h13 =>
 bnd (oIndexPtr 1 t5 t13) fun v14 =>
 beff (oStore base 1 h13 v14 v12) fun v15 h16 =>
 bnd (oBin .add 6 t13 (.int .i64 1)) fun v17 =>
 teller_each_api_Expr_l1 base t1 t5 t11 t12 v17 h16)
 (fun v12 h13 => pn false base v12 h13))
 (rt false base t5 H) := (loop_eq (cAt [1, 1, 0, 1, 0, 0] teller_each_api_Expr_c) ((blockK 0 ((seqK (fun _ t => teller_each_api_Expr_C base (cAt [1, 1, 1] teller_each_api_Expr_c) (teller_each_api_Expr_e base) (trimA teller_each_api_Expr_ks (cAt [1, 1, 1] teller_each_api_Expr_c) t)) (teller_each_api_Expr_e base))))) _ H []).trans (by kernel_rfl)
def teller_each_api_Expr (base : Nat) (t0 t1 : V) (H : Heap) : Option (Out × Heap) := teller_each_api_Expr_C base teller_each_api_Expr_c (teller_each_api_Expr_e base) [(0, t0), (1, t1)] H []
theorem teller_each_api_Expr_eq (base : Nat) (t0 t1 : V) (H : Heap) : teller_each_api_Expr base t0 t1 H =
 bnd (oLenSl t0) fun v0 =>
 beff (oMake 1 false 16 [(.str [])] v0 v0 H) fun v1 h2 =>
 bnd (oLenSl t0) fun v3 =>
 teller_each_api_Expr_l1 base t1 v1 t0 v3 (.int .i64 0) h2 := by kernel_rfl
theorem teller_each_api_Expr_E (t0 t1 : V) (H : Heap) : E n_teller_each_api_Expr [t0, t1] H = teller_each_api_Expr H.length t0 t1 H := (EV_at Tryd.func59 (by kernel_rfl) (by kernel_rfl) (by kernel_rfl)).trans (by kernel_rfl)

def teller_texts_1_c : Code := bodyOf Tryd.f60
def teller_texts_1_ks : Ks := []
def teller_texts_1_e (base : Nat) : KC (Out × Heap) := xEnd Tryd.prog D false base 14 Tryd.f60.results.toList
def teller_texts_1_C (base : Nat) (c : Code) (k : KC (Out × Heap)) (t : Ts) (H : Heap) (d : Ds) : Option (Out × Heap) := xC Tryd.prog base false teller_texts_1_ks E 14 c k t H d
def teller_texts_1 (base : Nat) (t0 t1 : V) (H : Heap) : Option (Out × Heap) := teller_texts_1_C base teller_texts_1_c (teller_texts_1_e base) [(0, t0), (1, t1)] H []
theorem teller_texts_1_eq (base : Nat) (t0 t1 : V) (H : Heap) : teller_texts_1 base t0 t1 H =
 beff (oVar H t0) fun v0 h1 =>
 bnd (oLoad false 1 h1 t1) fun v2 =>
 bnd (oFieldPtr v0 0) fun v3 =>
 bnd (oLoad false 1 h1 v3) fun v4 =>
 bcall (E n_slices_Contains_int_int [v2, v4] h1) (fun v5 h6 =>
 cnd v5
 (bnd (oLoad true 6 h6 v0) fun v7 =>
 bcall (E n_teller_text [v7] h6) (fun v8 h9 =>
 bnd (oBin .add 6 (.str [40]) v8) fun v10 =>
 bnd (oBin .add 6 v10 (.str [41])) fun v11 =>
 rt false base v11 h9)
 (fun v8 h9 => pn false base v8 h9))
 (bnd (oLoad true 6 h6 v0) fun v12 =>
 bcall (E n_teller_text [v12] h6) (fun v13 h14 =>
 rt false base v13 h14)
 (fun v13 h14 => pn false base v13 h14)))
 (fun v5 h6 => pn false base v5 h6) := by kernel_rfl
theorem teller_texts_1_E (t0 t1 : V) (H : Heap) : E n_teller_texts_1 [t0, t1] H = teller_texts_1 H.length t0 t1 H := (EV_at Tryd.func60 (by kernel_rfl) (by kernel_rfl) (by kernel_rfl)).trans (by kernel_rfl)

def slices_Contains_int_int_c : Code := bodyOf Tryd.f61
def slices_Contains_int_int_ks : Ks := []
def slices_Contains_int_int_e (base : Nat) : KC (Out × Heap) := xEnd Tryd.prog D false base 9 Tryd.f61.results.toList
def slices_Contains_int_int_C (base : Nat) (c : Code) (k : KC (Out × Heap)) (t : Ts) (H : Heap) (d : Ds) : Option (Out × Heap) := xC Tryd.prog base false slices_Contains_int_int_ks E 9 c k t H d
def slices_Contains_int_int (base : Nat) (t0 t1 : V) (H : Heap) : Option (Out × Heap) := slices_Contains_int_int_C base slices_Contains_int_int_c (slices_Contains_int_int_e base) [(0, t0), (1, t1)] H []
theorem slices_Contains_int_int_eq (base : Nat) (t0 t1 : V) (H : Heap) : slices_Contains_int_int base t0 t1 H =
 bcall (E n_slices_Index_int_int [t0, t1] H) (fun v0 h1 =>
 bnd (oBin .geq 6 v0 (.int .i64 0)) fun v2 =>
 rt false base v2 h1)
 (fun v0 h1 => pn false base v0 h1) := by kernel_rfl
theorem slices_Contains_int_int_E (t0 t1 : V) (H : Heap) : E n_slices_Contains_int_int [t0, t1] H = slices_Contains_int_int H.length t0 t1 H := (EV_at Tryd.func61 (by kernel_rfl) (by kernel_rfl) (by kernel_rfl)).trans (by kernel_rfl)

def teller_each_int_c : Code := bodyOf Tryd.f63
def teller_each_int_ks : Ks := [(3, [1, 5, 11, 12, 13])]
def teller_each_int_e (base : Nat) : KC (Out × Heap) := xEnd Tryd.prog D false base 26 Tryd.f63.results.toList
def teller_each_int_C (base : Nat) (c : Code) (k : KC (Out × Heap)) (t : Ts) (H : Heap) (d : Ds) : Option (Out × Heap) := xC Tryd.prog base false teller_each_int_ks E 26 c k t H d
def teller_each_int_l1 (base : Nat) (t1 t5 t11 t12 t13 : V) (H : Heap) : Option (Out × Heap) :=
iterL (fun t H d again => teller_each_int_C base (cAt [1, 1, 0, 1, 0, 0] teller_each_int_c) (loopK teller_each_int_ks (cAt [1, 1, 0, 1, 0, 0] teller_each_int_c) again ((blockK 0 ((seqK (fun _ t => teller_each_int_C base (cAt [1, 1, 1] teller_each_int_c) (teller_each_int_e base) (trimA teller_each_int_ks (cAt [1, 1, 1] teller_each_int_c) t)) (teller_each_int_e base)))))) t H d) [(1, t1), (5, t5), (11, t11), (12, t12), (13, t13)] H []
theorem teller_each_int_l1_eq (base : Nat) (t1 t5 t11 t12 t13 : V) (H : Heap) : teller_each_int_l1 base t1 t5 t11 t12 t13 H =
 bnd (oBin .lss 6 t13 t12) fun v4 =>
 cnd v4
 (bnd (oIndexPtr 1 t11 t13) fun v5 =>
 bnd (oLoad false 1 H v5) fun v6 =>
 bcall (oDyn E t1 [v6] H) (fun v7 h8 =>
 bnd (oIndexPtr 1 t5 t13) fun v9 =>
 beff (oStore base 1 h8 v9 v7) fun v10 h11 =>
 bnd (oBin .add 6 t13 (.int .i64 1)) fun v12 =>
 teller_each_int_l1 base t1 t5 t11 t12 v12 h11)
 (fun v7 h8 => pn false base v7 h8))
 (rt false base t5 H) := (loop_eq (cAt [1, 1, 0, 1, 0, 0] teller_each_int_c) ((blockK 0 ((seqK (fun _ t => teller_each_int_C base (cAt [1, 1, 1] teller_each_int_c) (teller_each_int_e base) (trimA teller_each_int_ks (cAt [1, 1, 1] teller_each_int_c) t)) (teller_each_int_e base))))) _ H []).trans (by kernel_rfl)
def teller_each_int (base : Nat) (t0 t1 : V) (H : Heap) : Option (Out × Heap) := teller_each_int_C base teller_each_int_c (teller_each_int_e base) [(0, t0), (1, t1)] H []
theorem teller_each_int_eq (base : Nat) (t0 t1 : V) (H : Heap) : teller_each_int base t0 t1 H =
 bnd (oLenSl t0) fun v0 =>
 beff (oMake 1 false 16 [(.str [])] v0 v0 H) fun v1 h2 =>
 bnd (oLenSl t0) fun v3 =>
 teller_each_int_l1 base t1 v1 t0 v3 (.int .i64 0) h2 := by kernel_rfl
theorem teller_each_int_E (t0 t1 : V) (H : Heap) : E n_teller_each_int [t0, t1] H = teller_each_int H.length t0 t1 H := (EV_at Tryd.func63 (by kernel_rfl) (by kernel_rfl) (by kernel_rfl)).trans (by kernel_rfl)

def teller_digits_c : Code := bodyOf Tryd.f64
def teller_digits_ks : Ks := []
def teller_digits_e (base : Nat) : KC (Out × Heap) := xEnd Tryd.prog D false base 13 Tryd.f64.results.toList
def teller_digits_C (base : Nat) (c : Code) (k : KC (Out × Heap)) (t : Ts) (H : Heap) (d : Ds) : Option (Out × Heap) := xC Tryd.prog base false teller_digits_ks E 13 c k t H d
def teller_digits (base : Nat) (t0 : V) (H : Heap) : Option (Out × Heap) := teller_digits_C base teller_digits_c (teller_digits_e base) [(0, t0)] H []
theorem teller_digits_eq (base : Nat) (t0 : V) (H : Heap) : teller_digits base t0 H =
 bcall (E n_strconv_FormatInt [t0, (.int .i64 16)] H) (fun v0 h1 =>
 bcall (E n_strings_ToUpper [v0] h1) (fun v2 h3 =>
 bnd (oLenStr v2) fun v4 =>
 bnd (oBin .lss 6 v4 (.int .i64 2)) fun v5 =>
 cnd v5
 (bnd (oBin .add 6 (.str [48]) v2) fun v6 =>
 rt false base v6 h3)
 (rt false base v2 h3))
 (fun v2 h3 => pn false base v2 h3))
 (fun v0 h1 => pn false base v0 h1) := by kernel_rfl
theorem teller_digits_E (t0 : V) (H : Heap) : E n_teller_digits [t0] H = teller_digits H.length t0 H := (EV_at Tryd.func64 (by kernel_rfl) (by kernel_rfl) (by kernel_rfl)).trans (by kernel_rfl)

def ref03_alpha_c : Code := bodyOf Tryd.f65
def ref03_alpha_ks : Ks := []
def ref03_alpha_e (base : Nat) : KC (Out × Heap) := xEnd Tryd.prog D false base 17 Tryd.f65.results.toList
def ref03_alpha_C (base : Nat) (c : Code) (k : KC (Out × Heap)) (t : Ts) (H : Heap) (d : Ds) : Option (Out × Heap) := xC Tryd.prog base false ref03_alpha_ks E 17 c k t H d
def ref03_alpha (base : Nat) (t0 : V) (H : Heap) : Option (Out × Heap) := ref03_alpha_C base ref03_alpha_c (ref03_alpha_e base) [(0, t0)] H []
theorem ref03_alpha_eq (base : Nat) (t0 : V) (H : Heap) : ref03_alpha base t0 H =
 bnd (oBin .geq 6 t0 (.int .i64 65)) fun v0 =>
 bnd (gua v0 true (oMove t0) (some (.tup []))) fun v1 =>
 bnd (gua v0 true (oBin .leq 6 v1 (.int .i64 90)) (some (.tup []))) fun v2 =>
 bnd (oPick v0 v2 (.bool false)) fun v3 =>
 bnd (gua v3 false (oMove t0) (some (.tup []))) fun v4 =>
 bnd (gua v3 false (oBin .geq 6 v4 (.int .i64 97)) (some (.tup []))) fun v5 =>
 bnd (gua v3 false (oMove v5) (some (.tup []))) fun v6 =>
 bnd (gua v6 true (oMove t0) (some (.tup []))) fun v7 =>
 bnd (gua v6 true (oBin .leq 6 v7 (.int .i64 122)) (some (.tup []))) fun v8 =>
 bnd (gua v3 false (oPick v6 v8 (.bool false)) (some (.tup []))) fun v9 =>
 bnd (oPick v3 (.bool true) v9) fun v10 =>
 rt false base v10 H := by kernel_rfl
theorem ref03_alpha_E (t0 : V) (H : Heap) : E n_ref03_alpha [t0] H = ref03_alpha H.length t0 H := (EV_at Tryd.func65 (by kernel_rfl) (by kernel_rfl) (by kernel_rfl)).trans (by kernel_rfl)

def ref03_digit_c : Code := bodyOf Tryd.f66
def ref03_digit_ks : Ks := []
def ref03_digit_e (base : Nat) : KC (Out × Heap) := xEnd Tryd.prog D false base 9 Tryd.f66.results.toList
def ref03_digit_C (base : Nat) (c : Code) (k : KC (Out × Heap)) (t : Ts) (H : Heap) (d : Ds) : Option (Out × Heap) := xC Tryd.prog base false ref03_digit_ks E 9 c k t H d
def ref03_digit (base : Nat) (t0 : V) (H : Heap) : Option (Out × Heap) := ref03_digit_C base ref03_digit_c (ref03_digit_e base) [(0, t0)] H []
theorem ref03_digit_eq (base : Nat) (t0 : V) (H : Heap) : ref03_digit base t0 H =
 bnd (oBin .geq 6 t0 (.int .i64 48)) fun v0 =>
 bnd (gua v0 true (oMove t0) (some (.tup []))) fun v1 =>
 bnd (gua v0 true (oBin .leq 6 v1 (.int .i64 57)) (some (.tup []))) fun v2 =>
 bnd (oPick v0 v2 (.bool false)) fun v3 =>
 rt false base v3 H := by kernel_rfl
theorem ref03_digit_E (t0 : V) (H : Heap) : E n_ref03_digit [t0] H = ref03_digit H.length t0 H := (EV_at Tryd.func66 (by kernel_rfl) (by kernel_rfl) (by kernel_rfl)).trans (by kernel_rfl)

def ref03_lower_c : Code := bodyOf Tryd.f67
def ref03_lower_ks : Ks := []
def ref03_lower_e (base : Nat) : KC (Out × Heap) := xEnd Tryd.prog D false base 12 Tryd.f67.results.toList
def ref03_lower_C (base : Nat) (c : Code) (k : KC (Out × Heap)) (t : Ts) (H : Heap) (d : Ds) : Option (Out × Heap) := xC Tryd.prog base false ref03_lower_ks E 12 c k t H d
def ref03_lower (base : Nat) (t0 : V) (H : Heap) : Option (Out × Heap) := ref03_lower_C base ref03_lower_c (ref03_lower_e base) [(0, t0)] H []
theorem ref03_lower_eq (base : Nat) (t0 : V) (H : Heap) : ref03_lower base t0 H =
 bnd (oBin .geq 6 t0 (.int .u8 65)) fun v0 =>
 bnd (gua v0 true (oMove t0) (some (.tup []))) fun v1 =>
 bnd (gua v0 true (oBin .leq 6 v1 (.int .u8 90)) (some (.tup []))) fun v2 =>
 bnd (oPick v0 v2 (.bool false)) fun v3 =>
 cnd v3
 (bnd (oBin .add 6 t0 (.int .u8 32)) fun v4 =>
 rt false base v4 H)
 (rt false base t0 H) := by kernel_rfl
theorem ref03_lower_E (t0 : V) (H : Heap) : E n_ref03_lower [t0] H = ref03_lower H.length t0 H := (EV_at Tryd.func67 (by kernel_rfl) (by kernel_rfl) (by kernel_rfl)).trans (by kernel_rfl)

def ref03_reader_seq_c : Code := bodyOf Tryd.f68
def ref03_reader_seq_ks : Ks := [(2, [0, 1, 4, 5]), (7, [4, 5])]
def ref03_reader_seq_e (base : Nat) : KC (Out × Heap) := xEnd Tryd.prog D false base 46 Tryd.f68.results.toList
def ref03_reader_seq_C (base : Nat) (c : Code) (k : KC (Out × Heap)) (t : Ts) (H : Heap) (d : Ds) : Option (Out × Heap) := xC Tryd.prog base true ref03_reader_seq_ks E 46 c k t H d
def ref03_reader_seq_l1 (base : Nat) (t0 t1 t4 t5 : V) (H : Heap) : Option (Out × Heap) :=
iterL (fun t H d again => ref03_reader_seq_C base (cAt [1, 1, 0, 0, 0] ref03_reader_seq_c) (loopK ref03_reader_seq_ks (cAt [1, 1, 0, 0, 0] ref03_reader_seq_c) again ((blockK 0 ((seqK (fun _ t => ref03_reader_seq_C base (cAt [1, 1, 1] ref03_reader_seq_c) (ref03_reader_seq_e base) (trimA ref03_reader_seq_ks (cAt [1, 1, 1] ref03_reader_seq_c) t)) (ref03_reader_seq_e base)))))) t H d) [(0, t0), (1, t1), (4, t4), (5, t5)] H []
def ref03_reader_seq_j2 (base : Nat) (t4 t5 : V) (H : Heap) : Option (Out × Heap) :=
ref03_reader_seq_C base (cAt [1, 1, 1] ref03_reader_seq_c) (ref03_reader_seq_e base) [(4, t4), (5, t5)] H []
theorem ref03_reader_seq_j2_eq (base : Nat) (t4 t5 : V) (H : Heap) : ref03_reader_seq_j2 base t4 t5 H =
 bnd (oLenSl t5) fun v25 =>
 bnd (oBin .eql 6 v25 (.int .i64 1)) fun v26 =>
 cnd v26
 (bnd (oIndexPtr 6 t5 (.int .i64 0)) fun v27 =>
 bnd (oLoad true 6 H v27) fun v28 =>
 beff (oStore base 6 H t4 v28) fun v29 h30 =>
 bnd (oLoad true 6 h30 t4) fun v31 =>
 rt false base v31 h30)
 (bnd (oBuild [(.int .i64 0), (.str []), .nils, (.int .i64 0), (.int .i64 0), .nils] [(0, 1), (1, 1), (2, 1), (3, 1), (4, 1), (5, 1)] [(0, (.int .i64 2)), (5, t5)]) fun v32 =>
 beff (oStore base 6 H t4 v32) fun v33 h34 =>
 bnd (oLoad true 6 h34 t4) fun v35 =>
 rt false base v35 h34) := by kernel_rfl
theorem ref03_reader_seq_l1_eq (base : Nat) (t0 t1 t4 t5 : V) (H : Heap) : ref03_reader_seq_l1 base t0 t1 t4 t5 H =
 bnd (oNil t0) fun v6 =>
 bnd (oFieldPtr v6 2) fun v7 =>
 bnd (oLoad false 1 H v7) fun v8 =>
 bnd (oBin .eql 6 v8 (.int .i64 0)) fun v9 =>
 cnd v9
 (bnd (oNil t0) fun v10 =>
 bnd (oFieldPtr v10 1) fun v11 =>
 bnd (oLoad false 1 H v11) fun v12 =>
 bcall (E n_ref03_reader_skip [t0] H) (fun v13 h14 =>
 bnd (oUn .not v13) fun v15 =>
 bnd (gua v15 false (oMove t0) (some (.tup []))) fun v16 =>
 bcall (gua v15 false (E n_ref03_reader_begins [v16] h14) (some (.ret (.tup []), h14))) (fun v17 h18 =>
 bnd (gua v15 false (oUn .not v17) (some (.tup []))) fun v19 =>
 bnd (oPick v15 (.bool true) v19) fun v20 =>
 cnd v20
 (bnd (oNil t0) fun v21 =>
 bnd (oFieldPtr v21 1) fun v22 =>
 beff (oStore base 1 h18 v22 v12) fun v23 h24 =>
 ref03_reader_seq_j2 base t4 t5 h24)
 (bcall (E n_ref03_reader_repeat [t0, t1] h18) (fun v36 h37 =>
 bnd (oLit 6 1 (.agg [(.int .i64 0), (.str []), (.vs []), (.int .i64 0), (.int .i64 0), (.vs [])]) [(0, v36)]) fun v38 =>
 beff (oAppend base 6 88 true t5 v38 h37) fun v39 h40 =>
 ref03_reader_seq_l1 base t0 t1 t4 v39 h40)
 (fun v36 h37 => pn false base v36 h37)))
 (fun v17 h18 => pn false base v17 h18))
 (fun v13 h14 => pn false base v13 h14))
 (ref03_reader_seq_j2 base t4 t5 H) := (loop_eq (cAt [1, 1, 0, 0, 0] ref03_reader_seq_c) ((blockK 0 ((seqK (fun _ t => ref03_reader_seq_C base (cAt [1, 1, 1] ref03_reader_seq_c) (ref03_reader_seq_e base) (trimA ref03_reader_seq_ks (cAt [1, 1, 1] ref03_reader_seq_c) t)) (ref03_reader_seq_e base))))) _ H []).trans (by kernel_rfl)
def ref03_reader_seq (base : Nat) (t0 t1 : V) (H : Heap) : Option (Out × Heap) := ref03_reader_seq_C base ref03_reader_seq_c (ref03_reader_seq_e base) [(0, t0), (1, t1)] H []
theorem ref03_reader_seq_eq (base : Nat) (t0 t1 : V) (H : Heap) : ref03_reader_seq base t0 t1 H =
 beff (oVar H (.agg [(.int .i64 0), (.str []), .nils, (.int .i64 0), (.int .i64 0), .nils])) fun v0 h1 =>
 bcall (E n_ref03_reader_repeat [t0, t1] h1) (fun v2 h3 =>
 beff (oRow 1 6 true [(.int .i64 0), (.str []), .nils, (.int .i64 0), (.int .i64 0), .nils] h3 [(0, v2)]) fun v4 h5 =>
 ref03_reader_seq_l1 base t0 t1 v0 v4 h5)
 (fun v2 h3 => pn false base v2 h3) := by kernel_rfl
theorem ref03_reader_seq_E (t0 t1 : V) (H : Heap) : E n_ref03_reader_seq [t0, t1] H = ref03_reader_seq H.length t0 t1 H := (EV_at Tryd.func68 (by kernel_rfl) (by kernel_rfl) (by kernel_rfl)).trans (by kernel_rfl)

def teller_own_1_c : Code := bodyOf Tryd.f70
def teller_own_1_ks : Ks := []
def teller_own_1_e (base : Nat) : KC (Out × Heap) := xEnd Tryd.prog D false base 9 Tryd.f70.results.toList
def teller_own_1_C (base : Nat) (c : Code) (k : KC (Out × Heap)) (t : Ts) (H : Heap) (d : Ds) : Option (Out × Heap) := xC Tryd.prog base false teller_own_1_ks E 9 c k t H d
def teller_own_1 (base : Nat) (t0 : V) (H : Heap) : Option (Out × Heap) := teller_own_1_C base teller_own_1_c (teller_own_1_e base) [(0, t0)] H []
theorem teller_own_1_eq (base : Nat) (t0 : V) (H : Heap) : teller_own_1 base t0 H =
 bnd (oBin .lss 6 t0 (.int .i64 0)) fun v0 =>
 bnd (gua v0 false (oMove t0) (some (.tup []))) fun v1 =>
 bnd (gua v0 false (oBin .gtr 6 v1 (.int .i64 1114111)) (some (.tup []))) fun v2 =>
 bnd (oPick v0 (.bool true) v2) fun v3 =>
 rt false base v3 H := by kernel_rfl
theorem teller_own_1_E (t0 : V) (H : Heap) : E n_teller_own_1 [t0] H = teller_own_1 H.length t0 H := (EV_at Tryd.func70 (by kernel_rfl) (by kernel_rfl) (by kernel_rfl)).trans (by kernel_rfl)

def teller_folded_c : Code := bodyOf Tryd.f71
def teller_folded_ks : Ks := [(2, [0, 6, 7])]
def teller_folded_e (base : Nat) : KC (Out × Heap) := xEnd Tryd.prog D false base 32 Tryd.f71.results.toList
def teller_folded_C (base : Nat) (c : Code) (k : KC (Out × Heap)) (t : Ts) (H : Heap) (d : Ds) : Option (Out × Heap) := xC Tryd.prog base false teller_folded_ks E 32 c k t H d
def teller_folded_l1 (base : Nat) (t0 t6 t7 : V) (H : Heap) : Option (Out × Heap) :=
iterL (fun t H d again => teller_folded_C base (cAt [1, 0, 1, 0, 0] teller_folded_c) (loopK teller_folded_ks (cAt [1, 0, 1, 0, 0] teller_folded_c) again ((blockK 0 ((seqK (fun _ t => teller_folded_C base (cAt [1, 1] teller_folded_c) (teller_folded_e base) (trimA teller_folded_ks (cAt [1, 1] teller_folded_c) t)) (teller_folded_e base)))))) t H d) [(0, t0), (6, t6), (7, t7)] H []
theorem teller_folded_l1_eq (base : Nat) (t0 t6 t7 : V) (H : Heap) : teller_folded_l1 base t0 t6 t7 H =
 bnd (oBin .lss 6 t7 t6) fun v1 =>
 cnd v1
 (bnd (oIndexStr t0 t7) fun v2 =>
 bnd (oBin .lss 6 v2 (.int .u8 32)) fun v3 =>
 bnd (gua v3 false (oMove v2) (some (.tup []))) fun v4 =>
 bnd (gua v3 false (oBin .gtr 6 v4 (.int .u8 126)) (some (.tup []))) fun v5 =>
 bnd (oPick v3 (.bool true) v5) fun v6 =>
 bnd (gua v6 false (oMove v2) (some (.tup []))) fun v7 =>
 bnd (gua v6 false (oBin .eql 6 v7 (.int .u8 34)) (some (.tup []))) fun v8 =>
 bnd (oPick v6 (.bool true) v8) fun v9 =>
 bnd (gua v9 false (oMove v2) (some (.tup []))) fun v10 =>
 bnd (gua v9 false (oBin .geq 6 v10 (.int .u8 65)) (some (.tup []))) fun v11 =>
 bnd (gua v9 false (oMove v11) (some (.tup []))) fun v12 =>
 bnd (gua v12 true (oMove v2) (some (.tup []))) fun v13 =>
 bnd (gua v12 true (oBin .leq 6 v13 (.int .u8 90)) (some (.tup []))) fun v14 =>
 bnd (gua v9 false (oPick v12 v14 (.bool false)) (some (.tup []))) fun v15 =>
 bnd (oPick v9 (.bool true) v15) fun v16 =>
 cnd v16
 (rt false base (.bool false) H)
 (bnd (oBin .add 6 t7 (.int .i64 1)) fun v17 =>
 teller_folded_l1 base t0 t6 v17 H))
 (rt false base (.bool true) H) := (loop_eq (cAt [1, 0, 1, 0, 0] teller_folded_c) ((blockK 0 ((seqK (fun _ t => teller_folded_C base (cAt [1, 1] teller_folded_c) (teller_folded_e base) (trimA teller_folded_ks (cAt [1, 1] teller_folded_c) t)) (teller_folded_e base))))) _ H []).trans (by kernel_rfl)
def teller_folded (base : Nat) (t0 : V) (H : Heap) : Option (Out × Heap) := teller_folded_C base teller_folded_c (teller_folded_e base) [(0, t0)] H []
theorem teller_folded_eq (base : Nat) (t0 : V) (H : Heap) : teller_folded base t0 H =
 bnd (oLenStr t0) fun v0 =>
 teller_folded_l1 base t0 v0 (.int .i64 0) H := by kernel_rfl
theorem teller_folded_E (t0 : V) (H : Heap) : E n_teller_folded [t0] H = teller_folded H.length t0 H := (EV_at Tryd.func71 (by kernel_rfl) (by kernel_rfl) (by kernel_rfl)).trans (by kernel_rfl)
end
end Go.Proofs.YthcjjicplodhjaaDoor
end

