/- Fn2: a part of the proof that each law of this seat answers true at every input. No condition. -/
import Derived.Test.YthcjjicplodhjaaDoorHint
import Derived.KernelRfl
set_option linter.unusedVariables false
set_option linter.unusedSimpArgs false
set_option maxRecDepth 20000
section
/- Printed: what functions do. -/
namespace Go.Proofs.YthcjjicplodhjaaDoor
open Go Go.Ev
set_option linter.unusedVariables false
noncomputable section

def teller_text_c : Code := bodyOf Tryd.f26
def teller_text_ks : Ks := []
def teller_text_e (base : Nat) : KC (Out × Heap) := xEnd Tryd.prog D false base 63 Tryd.f26.results.toList
def teller_text_C (base : Nat) (c : Code) (k : KC (Out × Heap)) (t : Ts) (H : Heap) (d : Ds) : Option (Out × Heap) := xC Tryd.prog base false teller_text_ks E 63 c k t H d
def teller_text (base : Nat) (t0 : V) (H : Heap) : Option (Out × Heap) := teller_text_C base teller_text_c (teller_text_e base) [(0, t0)] H []
theorem teller_text_eq (base : Nat) (t0 : V) (H : Heap) : teller_text base t0 H =
 beff (oVar H t0) fun v0 h1 =>
 bnd (oFieldPtr v0 0) fun v2 =>
 bnd (oLoad false 1 h1 v2) fun v3 =>
 bnd (oBin .eql 6 v3 (.int .i64 1)) fun v4 =>
 cnd v4
 (bnd (oFieldPtr v0 5) fun v5 =>
 bnd (oLoad false 1 h1 v5) fun v6 =>
 bnd (oLit 1 1 (.int .i64 0) [(0, (.int .i64 1))]) fun v7 =>
 bcall (E n_teller_texts [v6, v7] h1) (fun v8 h9 =>
 bcall (E n_strings_Join [v8, (.str [32, 47, 32])] h9) (fun v10 h11 =>
 rt false base v10 h11)
 (fun v10 h11 => pn false base v10 h11))
 (fun v8 h9 => pn false base v8 h9))
 (bnd (oBin .eql 6 v3 (.int .i64 2)) fun v12 =>
 cnd v12
 (bnd (oFieldPtr v0 5) fun v13 =>
 bnd (oLoad false 1 h1 v13) fun v14 =>
 bnd (oLit 1 2 (.int .i64 0) [(0, (.int .i64 1)), (1, (.int .i64 2))]) fun v15 =>
 bcall (E n_teller_texts [v14, v15] h1) (fun v16 h17 =>
 bcall (E n_strings_Join [v16, (.str [32])] h17) (fun v18 h19 =>
 rt false base v18 h19)
 (fun v18 h19 => pn false base v18 h19))
 (fun v16 h17 => pn false base v16 h17))
 (bnd (oBin .eql 6 v3 (.int .i64 3)) fun v20 =>
 cnd v20
 (bnd (oFieldPtr v0 3) fun v21 =>
 bnd (oLoad false 1 h1 v21) fun v22 =>
 bnd (oBin .eql 6 v22 (.int .i64 0)) fun v23 =>
 bnd (gua v23 true (oFieldPtr v0 4) (some (.tup []))) fun v24 =>
 bnd (gua v23 true (oLoad false 1 h1 v24) (some (.tup []))) fun v25 =>
 bnd (gua v23 true (oBin .eql 6 v25 (.int .i64 1)) (some (.tup []))) fun v26 =>
 bnd (oPick v23 v26 (.bool false)) fun v27 =>
 cnd v27
 (bnd (oFieldPtr v0 5) fun v28 =>
 bnd (oLoad false 1 h1 v28) fun v29 =>
 bnd (oIndexPtr 6 v29 (.int .i64 0)) fun v30 =>
 bnd (oLoad true 6 h1 v30) fun v31 =>
 bcall (E n_teller_text [v31] h1) (fun v32 h33 =>
 bnd (oBin .add 6 (.str [91]) v32) fun v34 =>
 bnd (oBin .add 6 v34 (.str [93])) fun v35 =>
 rt false base v35 h33)
 (fun v32 h33 => pn false base v32 h33))
 (bnd (oLoad true 6 h1 v0) fun v36 =>
 bcall (E n_teller_often [v36] h1) (fun v37 h38 =>
 bnd (oFieldPtr v0 5) fun v39 =>
 bnd (bnd (oLoad false 1 h38 v39) fun v40 => sch (sam (oLoad false 1 h1 v39) v40) (
 some v40)) fun v40 =>
 bnd (oLit 1 3 (.int .i64 0) [(0, (.int .i64 1)), (1, (.int .i64 2)), (2, (.int .i64 3))]) fun v41 =>
 bcall (E n_teller_texts [v40, v41] h38) (fun v42 h43 =>
 bnd (oIndexPtr 1 v42 (.int .i64 0)) fun v44 =>
 bnd (oLoad false 1 h43 v44) fun v45 =>
 bnd (oBin .add 6 v37 v45) fun v46 =>
 rt false base v46 h43)
 (fun v42 h43 => pn false base v42 h43))
 (fun v37 h38 => sch (tlb (oFieldPtr v0 5) fun v47 => tlb (oLoad false 1 h1 v47) fun v48 => tlb (oLit 1 3 (.int .i64 0) [(0, (.int .i64 1)), (1, (.int .i64 2)), (2, (.int .i64 3))]) fun v49 => true) (pn false base v37 h38))))
 (bnd (oBin .eql 6 v3 (.int .i64 4)) fun v50 =>
 cnd v50
 (bnd (oFieldPtr v0 1) fun v51 =>
 bnd (oLoad false 1 h1 v51) fun v52 =>
 rt false base v52 h1)
 (bnd (oBin .eql 6 v3 (.int .i64 5)) fun v53 =>
 cnd v53
 (bnd (oFieldPtr v0 1) fun v54 =>
 bnd (oLoad false 1 h1 v54) fun v55 =>
 bnd (oBin .add 6 (.str [34]) v55) fun v56 =>
 bnd (oBin .add 6 v56 (.str [34])) fun v57 =>
 rt false base v57 h1)
 (bnd (oBin .eql 6 v3 (.int .i64 6)) fun v58 =>
 cnd v58
 (bnd (oFieldPtr v0 2) fun v59 =>
 bnd (oLoad false 1 h1 v59) fun v60 =>
 bcall (E n_teller_numbers [v60, (.str [46])] h1) (fun v61 h62 =>
 rt false base v61 h62)
 (fun v61 h62 => pn false base v61 h62))
 (bnd (oFieldPtr v0 2) fun v63 =>
 bnd (oLoad false 1 h1 v63) fun v64 =>
 bcall (E n_teller_numbers [v64, (.str [45])] h1) (fun v65 h66 =>
 rt false base v65 h66)
 (fun v65 h66 => pn false base v65 h66))))))) := by kernel_rfl
theorem teller_text_E (t0 : V) (H : Heap) : E n_teller_text [t0] H = teller_text H.length t0 H := (EV_at Tryd.func26 (by kernel_rfl) (by kernel_rfl) (by kernel_rfl)).trans (by kernel_rfl)

def teller_plain_c : Code := bodyOf Tryd.f35
def teller_plain_ks : Ks := [(2, [0, 1, 7, 8])]
def teller_plain_e (base : Nat) : KC (Out × Heap) := xEnd Tryd.prog D false base 18 Tryd.f35.results.toList
def teller_plain_C (base : Nat) (c : Code) (k : KC (Out × Heap)) (t : Ts) (H : Heap) (d : Ds) : Option (Out × Heap) := xC Tryd.prog base false teller_plain_ks E 18 c k t H d
def teller_plain_l1 (base : Nat) (t0 t1 t7 t8 : V) (H : Heap) : Option (Out × Heap) :=
iterL (fun t H d again => teller_plain_C base (cAt [1, 0, 1, 0, 0] teller_plain_c) (loopK teller_plain_ks (cAt [1, 0, 1, 0, 0] teller_plain_c) again ((blockK 0 ((seqK (fun _ t => teller_plain_C base (cAt [1, 1] teller_plain_c) (teller_plain_e base) (trimA teller_plain_ks (cAt [1, 1] teller_plain_c) t)) (teller_plain_e base)))))) t H d) [(0, t0), (1, t1), (7, t7), (8, t8)] H []
theorem teller_plain_l1_eq (base : Nat) (t0 t1 t7 t8 : V) (H : Heap) : teller_plain_l1 base t0 t1 t7 t8 H =
 bnd (oBin .lss 6 t8 t7) fun v1 =>
 cnd v1
 (bnd (oIndexStr t0 t8) fun v2 =>
 bcall (E n_strings_IndexByte [t1, v2] H) (fun v3 h4 =>
 bnd (oBin .lss 6 v3 (.int .i64 0)) fun v5 =>
 cnd v5
 (rt false base (.bool false) h4)
 (bnd (oBin .add 6 t8 (.int .i64 1)) fun v6 =>
 teller_plain_l1 base t0 t1 t7 v6 h4))
 (fun v3 h4 => pn false base v3 h4))
 (rt false base (.bool true) H) := (loop_eq (cAt [1, 0, 1, 0, 0] teller_plain_c) ((blockK 0 ((seqK (fun _ t => teller_plain_C base (cAt [1, 1] teller_plain_c) (teller_plain_e base) (trimA teller_plain_ks (cAt [1, 1] teller_plain_c) t)) (teller_plain_e base))))) _ H []).trans (by kernel_rfl)
def teller_plain (base : Nat) (t0 t1 : V) (H : Heap) : Option (Out × Heap) := teller_plain_C base teller_plain_c (teller_plain_e base) [(0, t0), (1, t1)] H []
theorem teller_plain_eq (base : Nat) (t0 t1 : V) (H : Heap) : teller_plain base t0 t1 H =
 bnd (oLenStr t0) fun v0 =>
 teller_plain_l1 base t0 t1 v0 (.int .i64 0) H := by kernel_rfl
theorem teller_plain_E (t0 t1 : V) (H : Heap) : E n_teller_plain [t0, t1] H = teller_plain H.length t0 t1 H := (EV_at Tryd.func35 (by kernel_rfl) (by kernel_rfl) (by kernel_rfl)).trans (by kernel_rfl)

def ref04_letter_c : Code := bodyOf Tryd.f36
def ref04_letter_ks : Ks := []
def ref04_letter_e (base : Nat) : KC (Out × Heap) := xEnd Tryd.prog D false base 9 Tryd.f36.results.toList
def ref04_letter_C (base : Nat) (c : Code) (k : KC (Out × Heap)) (t : Ts) (H : Heap) (d : Ds) : Option (Out × Heap) := xC Tryd.prog base false ref04_letter_ks E 9 c k t H d
def ref04_letter (base : Nat) (t0 : V) (H : Heap) : Option (Out × Heap) := ref04_letter_C base ref04_letter_c (ref04_letter_e base) [(0, t0)] H []
theorem ref04_letter_eq (base : Nat) (t0 : V) (H : Heap) : ref04_letter base t0 H =
 bnd (oBin .geq 6 t0 (.int .u8 97)) fun v0 =>
 bnd (gua v0 true (oMove t0) (some (.tup []))) fun v1 =>
 bnd (gua v0 true (oBin .leq 6 v1 (.int .u8 122)) (some (.tup []))) fun v2 =>
 bnd (oPick v0 v2 (.bool false)) fun v3 =>
 rt false base v3 H := by kernel_rfl
theorem ref04_letter_E (t0 : V) (H : Heap) : E n_ref04_letter [t0] H = ref04_letter H.length t0 H := (EV_at Tryd.func36 (by kernel_rfl) (by kernel_rfl) (by kernel_rfl)).trans (by kernel_rfl)

def ref04_digit_c : Code := bodyOf Tryd.f37
def ref04_digit_ks : Ks := []
def ref04_digit_e (base : Nat) : KC (Out × Heap) := xEnd Tryd.prog D false base 9 Tryd.f37.results.toList
def ref04_digit_C (base : Nat) (c : Code) (k : KC (Out × Heap)) (t : Ts) (H : Heap) (d : Ds) : Option (Out × Heap) := xC Tryd.prog base false ref04_digit_ks E 9 c k t H d
def ref04_digit (base : Nat) (t0 : V) (H : Heap) : Option (Out × Heap) := ref04_digit_C base ref04_digit_c (ref04_digit_e base) [(0, t0)] H []
theorem ref04_digit_eq (base : Nat) (t0 : V) (H : Heap) : ref04_digit base t0 H =
 bnd (oBin .geq 6 t0 (.int .u8 48)) fun v0 =>
 bnd (gua v0 true (oMove t0) (some (.tup []))) fun v1 =>
 bnd (gua v0 true (oBin .leq 6 v1 (.int .u8 57)) (some (.tup []))) fun v2 =>
 bnd (oPick v0 v2 (.bool false)) fun v3 =>
 rt false base v3 H := by kernel_rfl
theorem ref04_digit_E (t0 : V) (H : Heap) : E n_ref04_digit [t0] H = ref04_digit H.length t0 H := (EV_at Tryd.func37 (by kernel_rfl) (by kernel_rfl) (by kernel_rfl)).trans (by kernel_rfl)

def teller_within_c : Code := bodyOf Tryd.f38
def teller_within_ks : Ks := []
def teller_within_e (base : Nat) : KC (Out × Heap) := xEnd Tryd.prog D false base 47 Tryd.f38.results.toList
def teller_within_C (base : Nat) (c : Code) (k : KC (Out × Heap)) (t : Ts) (H : Heap) (d : Ds) : Option (Out × Heap) := xC Tryd.prog base false teller_within_ks E 47 c k t H d
def teller_within (base : Nat) (t0 t1 : V) (H : Heap) : Option (Out × Heap) := teller_within_C base teller_within_c (teller_within_e base) [(0, t0), (1, t1)] H []
theorem teller_within_eq (base : Nat) (t0 t1 : V) (H : Heap) : teller_within base t0 t1 H =
 beff (oVar H t0) fun v0 h1 =>
 beff (oVar h1 t1) fun v2 h3 =>
 bnd (oLoad true 6 h3 v0) fun v4 =>
 bcall (E n_teller_own [v4] h3) (fun v5 h6 =>
 bnd (oExtract v5 0) fun v7 =>
 bnd (oExtract v5 1) fun v8 =>
 bnd (oExtract v5 2) fun v9 =>
 bnd (oFieldPtr v0 5) fun v10 =>
 bnd (oLoad false 1 h6 v10) fun v11 =>
 bnd (oLenSl v11) fun v12 =>
 bnd (oUn .not v7) fun v13 =>
 bnd (gua v13 false (oMove v12) (some (.tup []))) fun v14 =>
 bnd (gua v13 false (oMove v8) (some (.tup []))) fun v15 =>
 bnd (gua v13 false (oBin .lss 6 v14 v15) (some (.tup []))) fun v16 =>
 bnd (oPick v13 (.bool true) v16) fun v17 =>
 bnd (gua v17 false (oMove v9) (some (.tup []))) fun v18 =>
 bnd (gua v17 false (oBin .geq 6 v18 (.int .i64 0)) (some (.tup []))) fun v19 =>
 bnd (gua v17 false (oMove v19) (some (.tup []))) fun v20 =>
 bnd (gua v20 true (oMove v12) (some (.tup []))) fun v21 =>
 bnd (gua v20 true (oMove v9) (some (.tup []))) fun v22 =>
 bnd (gua v20 true (oBin .gtr 6 v21 v22) (some (.tup []))) fun v23 =>
 bnd (gua v17 false (oPick v20 v23 (.bool false)) (some (.tup []))) fun v24 =>
 bnd (oPick v17 (.bool true) v24) fun v25 =>
 bnd (gua v25 false (oMove v12) (some (.tup []))) fun v26 =>
 bnd (gua v25 false (oBin .gtr 6 v26 (.int .i64 0)) (some (.tup []))) fun v27 =>
 bnd (gua v25 false (oMove v27) (some (.tup []))) fun v28 =>
 bnd (gua v28 true (oLoad false 1 h6 v2) (some (.tup []))) fun v29 =>
 bnd (gua v28 true (oBin .eql 6 v29 (.int .i64 0)) (some (.tup []))) fun v30 =>
 bnd (gua v25 false (oPick v28 v30 (.bool false)) (some (.tup []))) fun v31 =>
 bnd (oPick v25 (.bool true) v31) fun v32 =>
 cnd v32
 (rt false base (.bool false) h6)
 (bnd (oFieldPtr v0 5) fun v33 =>
 bnd (oLoad false 1 h6 v33) fun v34 =>
 bnd (oMkFn n_teller_within_1 [v2]) fun v35 =>
 bcall (E n_slices_ContainsFunc_api_Expr_api_Expr [v34, v35] h6) (fun v36 h37 =>
 bnd (oUn .not v36) fun v38 =>
 rt false base v38 h37)
 (fun v36 h37 => pn false base v36 h37)))
 (fun v5 h6 => pn false base v5 h6) := by kernel_rfl
theorem teller_within_E (t0 t1 : V) (H : Heap) : E n_teller_within [t0, t1] H = teller_within H.length t0 t1 H := (EV_at Tryd.func38 (by kernel_rfl) (by kernel_rfl) (by kernel_rfl)).trans (by kernel_rfl)

def ref04_Text_c : Code := bodyOf Tryd.f39
def ref04_Text_ks : Ks := [(6, [1, 3, 4]), (10, [1, 3, 4]), (12, [1, 3, 4]), (7, [1, 3, 4]), (19, [1, 3]), (23, [1, 3]), (25, [1, 3]), (30, [1]), (32, [1, 3, 5]), (36, [1, 3, 5]), (38, [1, 3, 5]), (33, [1, 3, 5])]
def ref04_Text_e (base : Nat) : KC (Out × Heap) := xEnd Tryd.prog D false base 135 Tryd.f39.results.toList
def ref04_Text_C (base : Nat) (c : Code) (k : KC (Out × Heap)) (t : Ts) (H : Heap) (d : Ds) : Option (Out × Heap) := xC Tryd.prog base false ref04_Text_ks E 135 c k t H d
def ref04_Text_l1 (base : Nat) (t1 t3 t4 : V) (H : Heap) : Option (Out × Heap) :=
iterL (fun t H d again => ref04_Text_C base (cAt [1, 1, 0, 1, 0, 1, 0, 0, 1, 0, 0] ref04_Text_c) (loopK ref04_Text_ks (cAt [1, 1, 0, 1, 0, 1, 0, 0, 1, 0, 0] ref04_Text_c) again ((blockK 1 ((seqK (fun _ t => ref04_Text_C base (cAt [1, 1, 0, 1, 0, 1, 0, 1] ref04_Text_c) ((blockK 0 ((seqK (fun _ t => ref04_Text_C base (cAt [1, 1, 1] ref04_Text_c) (ref04_Text_e base) (trimA ref04_Text_ks (cAt [1, 1, 1] ref04_Text_c) t)) (ref04_Text_e base))))) (trimA ref04_Text_ks (cAt [1, 1, 0, 1, 0, 1, 0, 1] ref04_Text_c) t)) ((blockK 0 ((seqK (fun _ t => ref04_Text_C base (cAt [1, 1, 1] ref04_Text_c) (ref04_Text_e base) (trimA ref04_Text_ks (cAt [1, 1, 1] ref04_Text_c) t)) (ref04_Text_e base)))))))))) t H d) [(1, t1), (3, t3), (4, t4)] H []
def ref04_Text_j4 (base : Nat) (t1 t3 t4 : V) (H : Heap) : Option (Out × Heap) :=
ref04_Text_C base (cAt [1, 1, 0, 1, 0, 1, 0, 0, 1, 0, 0, 1, 1] ref04_Text_c) ((loopK ref04_Text_ks (cAt [1, 1, 0, 1, 0, 1, 0, 0, 1, 0, 0] ref04_Text_c) (iterL (fun t H d again => ref04_Text_C base (cAt [1, 1, 0, 1, 0, 1, 0, 0, 1, 0, 0] ref04_Text_c) (loopK ref04_Text_ks (cAt [1, 1, 0, 1, 0, 1, 0, 0, 1, 0, 0] ref04_Text_c) again ((blockK 1 ((seqK (fun _ t => ref04_Text_C base (cAt [1, 1, 0, 1, 0, 1, 0, 1] ref04_Text_c) ((blockK 0 ((seqK (fun _ t => ref04_Text_C base (cAt [1, 1, 1] ref04_Text_c) (ref04_Text_e base) (trimA ref04_Text_ks (cAt [1, 1, 1] ref04_Text_c) t)) (ref04_Text_e base))))) (trimA ref04_Text_ks (cAt [1, 1, 0, 1, 0, 1, 0, 1] ref04_Text_c) t)) ((blockK 0 ((seqK (fun _ t => ref04_Text_C base (cAt [1, 1, 1] ref04_Text_c) (ref04_Text_e base) (trimA ref04_Text_ks (cAt [1, 1, 1] ref04_Text_c) t)) (ref04_Text_e base)))))))))) t H d)) ((blockK 1 ((seqK (fun _ t => ref04_Text_C base (cAt [1, 1, 0, 1, 0, 1, 0, 1] ref04_Text_c) ((blockK 0 ((seqK (fun _ t => ref04_Text_C base (cAt [1, 1, 1] ref04_Text_c) (ref04_Text_e base) (trimA ref04_Text_ks (cAt [1, 1, 1] ref04_Text_c) t)) (ref04_Text_e base))))) (trimA ref04_Text_ks (cAt [1, 1, 0, 1, 0, 1, 0, 1] ref04_Text_c) t)) ((blockK 0 ((seqK (fun _ t => ref04_Text_C base (cAt [1, 1, 1] ref04_Text_c) (ref04_Text_e base) (trimA ref04_Text_ks (cAt [1, 1, 1] ref04_Text_c) t)) (ref04_Text_e base))))))))))) [(1, t1), (3, t3), (4, t4)] H []
theorem ref04_Text_j4_eq (base : Nat) (t1 t3 t4 : V) (H : Heap) : ref04_Text_j4 base t1 t3 t4 H =
 bnd (oBin .add 6 t4 (.int .i64 1)) fun v27 =>
 ref04_Text_l1 base t1 t3 v27 H := by kernel_rfl
def ref04_Text_j3 (base : Nat) (t1 t3 t4 : V) (H : Heap) : Option (Out × Heap) :=
ref04_Text_C base (cAt [1, 1, 0, 1, 0, 1, 0, 0, 1, 0, 0, 1, 0, 0, 1, 1] ref04_Text_c) ((blockK 2 ((seqK (fun _ t => ref04_Text_C base (cAt [1, 1, 0, 1, 0, 1, 0, 0, 1, 0, 0, 1, 1] ref04_Text_c) ((loopK ref04_Text_ks (cAt [1, 1, 0, 1, 0, 1, 0, 0, 1, 0, 0] ref04_Text_c) (iterL (fun t H d again => ref04_Text_C base (cAt [1, 1, 0, 1, 0, 1, 0, 0, 1, 0, 0] ref04_Text_c) (loopK ref04_Text_ks (cAt [1, 1, 0, 1, 0, 1, 0, 0, 1, 0, 0] ref04_Text_c) again ((blockK 1 ((seqK (fun _ t => ref04_Text_C base (cAt [1, 1, 0, 1, 0, 1, 0, 1] ref04_Text_c) ((blockK 0 ((seqK (fun _ t => ref04_Text_C base (cAt [1, 1, 1] ref04_Text_c) (ref04_Text_e base) (trimA ref04_Text_ks (cAt [1, 1, 1] ref04_Text_c) t)) (ref04_Text_e base))))) (trimA ref04_Text_ks (cAt [1, 1, 0, 1, 0, 1, 0, 1] ref04_Text_c) t)) ((blockK 0 ((seqK (fun _ t => ref04_Text_C base (cAt [1, 1, 1] ref04_Text_c) (ref04_Text_e base) (trimA ref04_Text_ks (cAt [1, 1, 1] ref04_Text_c) t)) (ref04_Text_e base)))))))))) t H d)) ((blockK 1 ((seqK (fun _ t => ref04_Text_C base (cAt [1, 1, 0, 1, 0, 1, 0, 1] ref04_Text_c) ((blockK 0 ((seqK (fun _ t => ref04_Text_C base (cAt [1, 1, 1] ref04_Text_c) (ref04_Text_e base) (trimA ref04_Text_ks (cAt [1, 1, 1] ref04_Text_c) t)) (ref04_Text_e base))))) (trimA ref04_Text_ks (cAt [1, 1, 0, 1, 0, 1, 0, 1] ref04_Text_c) t)) ((blockK 0 ((seqK (fun _ t => ref04_Text_C base (cAt [1, 1, 1] ref04_Text_c) (ref04_Text_e base) (trimA ref04_Text_ks (cAt [1, 1, 1] ref04_Text_c) t)) (ref04_Text_e base))))))))))) (trimA ref04_Text_ks (cAt [1, 1, 0, 1, 0, 1, 0, 0, 1, 0, 0, 1, 1] ref04_Text_c) t)) ((loopK ref04_Text_ks (cAt [1, 1, 0, 1, 0, 1, 0, 0, 1, 0, 0] ref04_Text_c) (iterL (fun t H d again => ref04_Text_C base (cAt [1, 1, 0, 1, 0, 1, 0, 0, 1, 0, 0] ref04_Text_c) (loopK ref04_Text_ks (cAt [1, 1, 0, 1, 0, 1, 0, 0, 1, 0, 0] ref04_Text_c) again ((blockK 1 ((seqK (fun _ t => ref04_Text_C base (cAt [1, 1, 0, 1, 0, 1, 0, 1] ref04_Text_c) ((blockK 0 ((seqK (fun _ t => ref04_Text_C base (cAt [1, 1, 1] ref04_Text_c) (ref04_Text_e base) (trimA ref04_Text_ks (cAt [1, 1, 1] ref04_Text_c) t)) (ref04_Text_e base))))) (trimA ref04_Text_ks (cAt [1, 1, 0, 1, 0, 1, 0, 1] ref04_Text_c) t)) ((blockK 0 ((seqK (fun _ t => ref04_Text_C base (cAt [1, 1, 1] ref04_Text_c) (ref04_Text_e base) (trimA ref04_Text_ks (cAt [1, 1, 1] ref04_Text_c) t)) (ref04_Text_e base)))))))))) t H d)) ((blockK 1 ((seqK (fun _ t => ref04_Text_C base (cAt [1, 1, 0, 1, 0, 1, 0, 1] ref04_Text_c) ((blockK 0 ((seqK (fun _ t => ref04_Text_C base (cAt [1, 1, 1] ref04_Text_c) (ref04_Text_e base) (trimA ref04_Text_ks (cAt [1, 1, 1] ref04_Text_c) t)) (ref04_Text_e base))))) (trimA ref04_Text_ks (cAt [1, 1, 0, 1, 0, 1, 0, 1] ref04_Text_c) t)) ((blockK 0 ((seqK (fun _ t => ref04_Text_C base (cAt [1, 1, 1] ref04_Text_c) (ref04_Text_e base) (trimA ref04_Text_ks (cAt [1, 1, 1] ref04_Text_c) t)) (ref04_Text_e base))))))))))))))) [(1, t1), (3, t3), (4, t4)] H []
theorem ref04_Text_j3_eq (base : Nat) (t1 t3 t4 : V) (H : Heap) : ref04_Text_j3 base t1 t3 t4 H =
 bnd (oFieldPtr t1 5) fun v17 =>
 bnd (oLoad false 1 H v17) fun v18 =>
 bnd (oIndexPtr 6 v18 t4) fun v19 =>
 bnd (oLoad true 6 H v19) fun v20 =>
 bnd (oFieldPtr t1 0) fun v21 =>
 bnd (oLoad false 1 H v21) fun v22 =>
 bnd (oBin .eql 6 v22 (.int .i64 2)) fun v23 =>
 bcall (E n_ref04_inner [v20, (.bool true), v23, (.bool false)] H) (fun v24 h25 =>
 bnd (oBin .add 6 t3 v24) fun v26 =>
 ref04_Text_j4 base t1 v26 t4 h25)
 (fun v24 h25 => pn false base v24 h25) := by kernel_rfl
def ref04_Text_j2 (base : Nat) (t1 t3 t4 : V) (H : Heap) : Option (Out × Heap) :=
ref04_Text_C base (cAt [1, 1, 0, 1, 0, 1, 0, 0, 1, 0, 0, 1, 0, 0, 1] ref04_Text_c) ((blockK 2 ((seqK (fun _ t => ref04_Text_C base (cAt [1, 1, 0, 1, 0, 1, 0, 0, 1, 0, 0, 1, 1] ref04_Text_c) ((loopK ref04_Text_ks (cAt [1, 1, 0, 1, 0, 1, 0, 0, 1, 0, 0] ref04_Text_c) (iterL (fun t H d again => ref04_Text_C base (cAt [1, 1, 0, 1, 0, 1, 0, 0, 1, 0, 0] ref04_Text_c) (loopK ref04_Text_ks (cAt [1, 1, 0, 1, 0, 1, 0, 0, 1, 0, 0] ref04_Text_c) again ((blockK 1 ((seqK (fun _ t => ref04_Text_C base (cAt [1, 1, 0, 1, 0, 1, 0, 1] ref04_Text_c) ((blockK 0 ((seqK (fun _ t => ref04_Text_C base (cAt [1, 1, 1] ref04_Text_c) (ref04_Text_e base) (trimA ref04_Text_ks (cAt [1, 1, 1] ref04_Text_c) t)) (ref04_Text_e base))))) (trimA ref04_Text_ks (cAt [1, 1, 0, 1, 0, 1, 0, 1] ref04_Text_c) t)) ((blockK 0 ((seqK (fun _ t => ref04_Text_C base (cAt [1, 1, 1] ref04_Text_c) (ref04_Text_e base) (trimA ref04_Text_ks (cAt [1, 1, 1] ref04_Text_c) t)) (ref04_Text_e base)))))))))) t H d)) ((blockK 1 ((seqK (fun _ t => ref04_Text_C base (cAt [1, 1, 0, 1, 0, 1, 0, 1] ref04_Text_c) ((blockK 0 ((seqK (fun _ t => ref04_Text_C base (cAt [1, 1, 1] ref04_Text_c) (ref04_Text_e base) (trimA ref04_Text_ks (cAt [1, 1, 1] ref04_Text_c) t)) (ref04_Text_e base))))) (trimA ref04_Text_ks (cAt [1, 1, 0, 1, 0, 1, 0, 1] ref04_Text_c) t)) ((blockK 0 ((seqK (fun _ t => ref04_Text_C base (cAt [1, 1, 1] ref04_Text_c) (ref04_Text_e base) (trimA ref04_Text_ks (cAt [1, 1, 1] ref04_Text_c) t)) (ref04_Text_e base))))))))))) (trimA ref04_Text_ks (cAt [1, 1, 0, 1, 0, 1, 0, 0, 1, 0, 0, 1, 1] ref04_Text_c) t)) ((loopK ref04_Text_ks (cAt [1, 1, 0, 1, 0, 1, 0, 0, 1, 0, 0] ref04_Text_c) (iterL (fun t H d again => ref04_Text_C base (cAt [1, 1, 0, 1, 0, 1, 0, 0, 1, 0, 0] ref04_Text_c) (loopK ref04_Text_ks (cAt [1, 1, 0, 1, 0, 1, 0, 0, 1, 0, 0] ref04_Text_c) again ((blockK 1 ((seqK (fun _ t => ref04_Text_C base (cAt [1, 1, 0, 1, 0, 1, 0, 1] ref04_Text_c) ((blockK 0 ((seqK (fun _ t => ref04_Text_C base (cAt [1, 1, 1] ref04_Text_c) (ref04_Text_e base) (trimA ref04_Text_ks (cAt [1, 1, 1] ref04_Text_c) t)) (ref04_Text_e base))))) (trimA ref04_Text_ks (cAt [1, 1, 0, 1, 0, 1, 0, 1] ref04_Text_c) t)) ((blockK 0 ((seqK (fun _ t => ref04_Text_C base (cAt [1, 1, 1] ref04_Text_c) (ref04_Text_e base) (trimA ref04_Text_ks (cAt [1, 1, 1] ref04_Text_c) t)) (ref04_Text_e base)))))))))) t H d)) ((blockK 1 ((seqK (fun _ t => ref04_Text_C base (cAt [1, 1, 0, 1, 0, 1, 0, 1] ref04_Text_c) ((blockK 0 ((seqK (fun _ t => ref04_Text_C base (cAt [1, 1, 1] ref04_Text_c) (ref04_Text_e base) (trimA ref04_Text_ks (cAt [1, 1, 1] ref04_Text_c) t)) (ref04_Text_e base))))) (trimA ref04_Text_ks (cAt [1, 1, 0, 1, 0, 1, 0, 1] ref04_Text_c) t)) ((blockK 0 ((seqK (fun _ t => ref04_Text_C base (cAt [1, 1, 1] ref04_Text_c) (ref04_Text_e base) (trimA ref04_Text_ks (cAt [1, 1, 1] ref04_Text_c) t)) (ref04_Text_e base))))))))))))))) [(1, t1), (3, t3), (4, t4)] H []
theorem ref04_Text_j2_eq (base : Nat) (t1 t3 t4 : V) (H : Heap) : ref04_Text_j2 base t1 t3 t4 H =
 bnd (oBin .gtr 6 t4 (.int .i64 0)) fun v15 =>
 cnd v15
 (bnd (oBin .add 6 t3 (.str [32])) fun v16 =>
 ref04_Text_j3 base t1 v16 t4 H)
 (ref04_Text_j3 base t1 t3 t4 H) := by kernel_rfl
theorem ref04_Text_l1_eq (base : Nat) (t1 t3 t4 : V) (H : Heap) : ref04_Text_l1 base t1 t3 t4 H =
 bnd (oFieldPtr t1 5) fun v5 =>
 bnd (oLoad false 1 H v5) fun v6 =>
 bnd (oLenSl v6) fun v7 =>
 bnd (oBin .lss 6 t4 v7) fun v8 =>
 cnd v8
 (bnd (oBin .gtr 6 t4 (.int .i64 0)) fun v9 =>
 bnd (gua v9 true (oFieldPtr t1 0) (some (.tup []))) fun v10 =>
 bnd (gua v9 true (oLoad false 1 H v10) (some (.tup []))) fun v11 =>
 bnd (gua v9 true (oBin .eql 6 v11 (.int .i64 1)) (some (.tup []))) fun v12 =>
 bnd (oPick v9 v12 (.bool false)) fun v13 =>
 cnd v13
 (bnd (oBin .add 6 t3 (.str [32, 47])) fun v14 =>
 ref04_Text_j2 base t1 v14 t4 H)
 (ref04_Text_j2 base t1 t3 t4 H))
 (rt false base t3 H) := (loop_eq (cAt [1, 1, 0, 1, 0, 1, 0, 0, 1, 0, 0] ref04_Text_c) ((blockK 1 ((seqK (fun _ t => ref04_Text_C base (cAt [1, 1, 0, 1, 0, 1, 0, 1] ref04_Text_c) ((blockK 0 ((seqK (fun _ t => ref04_Text_C base (cAt [1, 1, 1] ref04_Text_c) (ref04_Text_e base) (trimA ref04_Text_ks (cAt [1, 1, 1] ref04_Text_c) t)) (ref04_Text_e base))))) (trimA ref04_Text_ks (cAt [1, 1, 0, 1, 0, 1, 0, 1] ref04_Text_c) t)) ((blockK 0 ((seqK (fun _ t => ref04_Text_C base (cAt [1, 1, 1] ref04_Text_c) (ref04_Text_e base) (trimA ref04_Text_ks (cAt [1, 1, 1] ref04_Text_c) t)) (ref04_Text_e base))))))))) _ H []).trans (by kernel_rfl)
def ref04_Text_j7 (base : Nat) (t1 t3 : V) (H : Heap) : Option (Out × Heap) :=
ref04_Text_C base (cAt [1, 1, 0, 1, 0, 1, 1, 1, 0, 1, 1, 1, 1] ref04_Text_c) ((blockK 0 ((seqK (fun _ t => ref04_Text_C base (cAt [1, 1, 1] ref04_Text_c) (ref04_Text_e base) (trimA ref04_Text_ks (cAt [1, 1, 1] ref04_Text_c) t)) (ref04_Text_e base))))) [(1, t1), (3, t3)] H []
theorem ref04_Text_j7_eq (base : Nat) (t1 t3 : V) (H : Heap) : ref04_Text_j7 base t1 t3 H =
 bnd (oFieldPtr t1 5) fun v68 =>
 bnd (oLoad false 1 H v68) fun v69 =>
 bnd (oIndexPtr 6 v69 (.int .i64 0)) fun v70 =>
 bnd (oLoad true 6 H v70) fun v71 =>
 bcall (E n_ref04_inner [v71, (.bool true), (.bool true), (.bool true)] H) (fun v72 h73 =>
 bnd (oBin .add 6 t3 v72) fun v74 =>
 rt false base v74 h73)
 (fun v72 h73 => pn false base v72 h73) := by kernel_rfl
def ref04_Text_j6 (base : Nat) (t1 t3 : V) (H : Heap) : Option (Out × Heap) :=
ref04_Text_C base (cAt [1, 1, 0, 1, 0, 1, 1, 1, 0, 1, 1, 1] ref04_Text_c) ((blockK 0 ((seqK (fun _ t => ref04_Text_C base (cAt [1, 1, 1] ref04_Text_c) (ref04_Text_e base) (trimA ref04_Text_ks (cAt [1, 1, 1] ref04_Text_c) t)) (ref04_Text_e base))))) [(1, t1), (3, t3)] H []
theorem ref04_Text_j6_eq (base : Nat) (t1 t3 : V) (H : Heap) : ref04_Text_j6 base t1 t3 H =
 bnd (oFieldPtr t1 4) fun v65 =>
 bnd (oLoad false 1 H v65) fun v66 =>
 bnd (oBin .eql 6 v66 (.int .i64 0)) fun v67 =>
 cnd v67
 (ref04_Text_j7 base t1 (.str [48]) H)
 (ref04_Text_j7 base t1 t3 H) := by kernel_rfl
def ref04_Text_j5 (base : Nat) (t1 t3 : V) (H : Heap) : Option (Out × Heap) :=
ref04_Text_C base (cAt [1, 1, 0, 1, 0, 1, 1, 1, 0, 1, 1] ref04_Text_c) ((blockK 0 ((seqK (fun _ t => ref04_Text_C base (cAt [1, 1, 1] ref04_Text_c) (ref04_Text_e base) (trimA ref04_Text_ks (cAt [1, 1, 1] ref04_Text_c) t)) (ref04_Text_e base))))) [(1, t1), (3, t3)] H []
theorem ref04_Text_j5_eq (base : Nat) (t1 t3 : V) (H : Heap) : ref04_Text_j5 base t1 t3 H =
 bnd (oFieldPtr t1 4) fun v51 =>
 bnd (oLoad false 1 H v51) fun v52 =>
 bnd (oFieldPtr t1 3) fun v53 =>
 bnd (oLoad false 1 H v53) fun v54 =>
 bnd (oBin .neq 6 v52 v54) fun v55 =>
 cnd v55
 (bnd (oBin .add 6 t3 (.str [42])) fun v56 =>
 bnd (oFieldPtr t1 4) fun v57 =>
 bnd (oLoad false 1 H v57) fun v58 =>
 bnd (oBin .geq 6 v58 (.int .i64 0)) fun v59 =>
 cnd v59
 (bnd (oFieldPtr t1 4) fun v60 =>
 bnd (oLoad false 1 H v60) fun v61 =>
 bcall (E n_ref04_Digits [v61] H) (fun v62 h63 =>
 bnd (oBin .add 6 v56 v62) fun v64 =>
 ref04_Text_j6 base t1 v64 h63)
 (fun v62 h63 => pn false base v62 h63))
 (ref04_Text_j6 base t1 v56 H))
 (ref04_Text_j6 base t1 t3 H) := by kernel_rfl
def ref04_Text_l9 (base : Nat) (t1 t3 t5 : V) (H : Heap) : Option (Out × Heap) :=
iterL (fun t H d again => ref04_Text_C base (cAt [1, 1, 1, 1, 0, 1, 0, 0] ref04_Text_c) (loopK ref04_Text_ks (cAt [1, 1, 1, 1, 0, 1, 0, 0] ref04_Text_c) again ((blockK 3 ((seqK (fun _ t => ref04_Text_C base (cAt [1, 1, 1, 1, 1] ref04_Text_c) (ref04_Text_e base) (trimA ref04_Text_ks (cAt [1, 1, 1, 1, 1] ref04_Text_c) t)) (ref04_Text_e base)))))) t H d) [(1, t1), (3, t3), (5, t5)] H []
def ref04_Text_j12 (base : Nat) (t1 t3 t5 : V) (H : Heap) : Option (Out × Heap) :=
ref04_Text_C base (cAt [1, 1, 1, 1, 0, 1, 0, 0, 1, 1] ref04_Text_c) ((loopK ref04_Text_ks (cAt [1, 1, 1, 1, 0, 1, 0, 0] ref04_Text_c) (iterL (fun t H d again => ref04_Text_C base (cAt [1, 1, 1, 1, 0, 1, 0, 0] ref04_Text_c) (loopK ref04_Text_ks (cAt [1, 1, 1, 1, 0, 1, 0, 0] ref04_Text_c) again ((blockK 3 ((seqK (fun _ t => ref04_Text_C base (cAt [1, 1, 1, 1, 1] ref04_Text_c) (ref04_Text_e base) (trimA ref04_Text_ks (cAt [1, 1, 1, 1, 1] ref04_Text_c) t)) (ref04_Text_e base)))))) t H d)) ((blockK 3 ((seqK (fun _ t => ref04_Text_C base (cAt [1, 1, 1, 1, 1] ref04_Text_c) (ref04_Text_e base) (trimA ref04_Text_ks (cAt [1, 1, 1, 1, 1] ref04_Text_c) t)) (ref04_Text_e base))))))) [(1, t1), (3, t3), (5, t5)] H []
theorem ref04_Text_j12_eq (base : Nat) (t1 t3 t5 : V) (H : Heap) : ref04_Text_j12 base t1 t3 t5 H =
 bnd (oBin .add 6 t5 (.int .i64 1)) fun v106 =>
 ref04_Text_l9 base t1 t3 v106 H := by kernel_rfl
def ref04_Text_j11 (base : Nat) (t1 t3 t5 : V) (H : Heap) : Option (Out × Heap) :=
ref04_Text_C base (cAt [1, 1, 1, 1, 0, 1, 0, 0, 1, 0, 0, 1, 1] ref04_Text_c) ((blockK 4 ((seqK (fun _ t => ref04_Text_C base (cAt [1, 1, 1, 1, 0, 1, 0, 0, 1, 1] ref04_Text_c) ((loopK ref04_Text_ks (cAt [1, 1, 1, 1, 0, 1, 0, 0] ref04_Text_c) (iterL (fun t H d again => ref04_Text_C base (cAt [1, 1, 1, 1, 0, 1, 0, 0] ref04_Text_c) (loopK ref04_Text_ks (cAt [1, 1, 1, 1, 0, 1, 0, 0] ref04_Text_c) again ((blockK 3 ((seqK (fun _ t => ref04_Text_C base (cAt [1, 1, 1, 1, 1] ref04_Text_c) (ref04_Text_e base) (trimA ref04_Text_ks (cAt [1, 1, 1, 1, 1] ref04_Text_c) t)) (ref04_Text_e base)))))) t H d)) ((blockK 3 ((seqK (fun _ t => ref04_Text_C base (cAt [1, 1, 1, 1, 1] ref04_Text_c) (ref04_Text_e base) (trimA ref04_Text_ks (cAt [1, 1, 1, 1, 1] ref04_Text_c) t)) (ref04_Text_e base))))))) (trimA ref04_Text_ks (cAt [1, 1, 1, 1, 0, 1, 0, 0, 1, 1] ref04_Text_c) t)) ((loopK ref04_Text_ks (cAt [1, 1, 1, 1, 0, 1, 0, 0] ref04_Text_c) (iterL (fun t H d again => ref04_Text_C base (cAt [1, 1, 1, 1, 0, 1, 0, 0] ref04_Text_c) (loopK ref04_Text_ks (cAt [1, 1, 1, 1, 0, 1, 0, 0] ref04_Text_c) again ((blockK 3 ((seqK (fun _ t => ref04_Text_C base (cAt [1, 1, 1, 1, 1] ref04_Text_c) (ref04_Text_e base) (trimA ref04_Text_ks (cAt [1, 1, 1, 1, 1] ref04_Text_c) t)) (ref04_Text_e base)))))) t H d)) ((blockK 3 ((seqK (fun _ t => ref04_Text_C base (cAt [1, 1, 1, 1, 1] ref04_Text_c) (ref04_Text_e base) (trimA ref04_Text_ks (cAt [1, 1, 1, 1, 1] ref04_Text_c) t)) (ref04_Text_e base))))))))))) [(1, t1), (3, t3), (5, t5)] H []
theorem ref04_Text_j11_eq (base : Nat) (t1 t3 t5 : V) (H : Heap) : ref04_Text_j11 base t1 t3 t5 H =
 bnd (oFieldPtr t1 2) fun v99 =>
 bnd (oLoad false 1 H v99) fun v100 =>
 bnd (oIndexPtr 1 v100 t5) fun v101 =>
 bnd (oLoad false 1 H v101) fun v102 =>
 bcall (E n_ref04_hex [v102] H) (fun v103 h104 =>
 bnd (oBin .add 6 t3 v103) fun v105 =>
 ref04_Text_j12 base t1 v105 t5 h104)
 (fun v103 h104 => pn false base v103 h104) := by kernel_rfl
def ref04_Text_j10 (base : Nat) (t1 t3 t5 : V) (H : Heap) : Option (Out × Heap) :=
ref04_Text_C base (cAt [1, 1, 1, 1, 0, 1, 0, 0, 1, 0, 0, 1] ref04_Text_c) ((blockK 4 ((seqK (fun _ t => ref04_Text_C base (cAt [1, 1, 1, 1, 0, 1, 0, 0, 1, 1] ref04_Text_c) ((loopK ref04_Text_ks (cAt [1, 1, 1, 1, 0, 1, 0, 0] ref04_Text_c) (iterL (fun t H d again => ref04_Text_C base (cAt [1, 1, 1, 1, 0, 1, 0, 0] ref04_Text_c) (loopK ref04_Text_ks (cAt [1, 1, 1, 1, 0, 1, 0, 0] ref04_Text_c) again ((blockK 3 ((seqK (fun _ t => ref04_Text_C base (cAt [1, 1, 1, 1, 1] ref04_Text_c) (ref04_Text_e base) (trimA ref04_Text_ks (cAt [1, 1, 1, 1, 1] ref04_Text_c) t)) (ref04_Text_e base)))))) t H d)) ((blockK 3 ((seqK (fun _ t => ref04_Text_C base (cAt [1, 1, 1, 1, 1] ref04_Text_c) (ref04_Text_e base) (trimA ref04_Text_ks (cAt [1, 1, 1, 1, 1] ref04_Text_c) t)) (ref04_Text_e base))))))) (trimA ref04_Text_ks (cAt [1, 1, 1, 1, 0, 1, 0, 0, 1, 1] ref04_Text_c) t)) ((loopK ref04_Text_ks (cAt [1, 1, 1, 1, 0, 1, 0, 0] ref04_Text_c) (iterL (fun t H d again => ref04_Text_C base (cAt [1, 1, 1, 1, 0, 1, 0, 0] ref04_Text_c) (loopK ref04_Text_ks (cAt [1, 1, 1, 1, 0, 1, 0, 0] ref04_Text_c) again ((blockK 3 ((seqK (fun _ t => ref04_Text_C base (cAt [1, 1, 1, 1, 1] ref04_Text_c) (ref04_Text_e base) (trimA ref04_Text_ks (cAt [1, 1, 1, 1, 1] ref04_Text_c) t)) (ref04_Text_e base)))))) t H d)) ((blockK 3 ((seqK (fun _ t => ref04_Text_C base (cAt [1, 1, 1, 1, 1] ref04_Text_c) (ref04_Text_e base) (trimA ref04_Text_ks (cAt [1, 1, 1, 1, 1] ref04_Text_c) t)) (ref04_Text_e base))))))))))) [(1, t1), (3, t3), (5, t5)] H []
theorem ref04_Text_j10_eq (base : Nat) (t1 t3 t5 : V) (H : Heap) : ref04_Text_j10 base t1 t3 t5 H =
 bnd (oBin .gtr 6 t5 (.int .i64 0)) fun v93 =>
 bnd (gua v93 true (oFieldPtr t1 0) (some (.tup []))) fun v94 =>
 bnd (gua v93 true (oLoad false 1 H v94) (some (.tup []))) fun v95 =>
 bnd (gua v93 true (oBin .eql 6 v95 (.int .i64 7)) (some (.tup []))) fun v96 =>
 bnd (oPick v93 v96 (.bool false)) fun v97 =>
 cnd v97
 (bnd (oBin .add 6 t3 (.str [45])) fun v98 =>
 ref04_Text_j11 base t1 v98 t5 H)
 (ref04_Text_j11 base t1 t3 t5 H) := by kernel_rfl
theorem ref04_Text_l9_eq (base : Nat) (t1 t3 t5 : V) (H : Heap) : ref04_Text_l9 base t1 t3 t5 H =
 bnd (oFieldPtr t1 2) fun v83 =>
 bnd (oLoad false 1 H v83) fun v84 =>
 bnd (oLenSl v84) fun v85 =>
 bnd (oBin .lss 6 t5 v85) fun v86 =>
 cnd v86
 (bnd (oBin .gtr 6 t5 (.int .i64 0)) fun v87 =>
 bnd (gua v87 true (oFieldPtr t1 0) (some (.tup []))) fun v88 =>
 bnd (gua v87 true (oLoad false 1 H v88) (some (.tup []))) fun v89 =>
 bnd (gua v87 true (oBin .eql 6 v89 (.int .i64 6)) (some (.tup []))) fun v90 =>
 bnd (oPick v87 v90 (.bool false)) fun v91 =>
 cnd v91
 (bnd (oBin .add 6 t3 (.str [46])) fun v92 =>
 ref04_Text_j10 base t1 v92 t5 H)
 (ref04_Text_j10 base t1 t3 t5 H))
 (rt false base t3 H) := (loop_eq (cAt [1, 1, 1, 1, 0, 1, 0, 0] ref04_Text_c) ((blockK 3 ((seqK (fun _ t => ref04_Text_C base (cAt [1, 1, 1, 1, 1] ref04_Text_c) (ref04_Text_e base) (trimA ref04_Text_ks (cAt [1, 1, 1, 1, 1] ref04_Text_c) t)) (ref04_Text_e base))))) _ H []).trans (by kernel_rfl)
def ref04_Text_j8 (base : Nat) (t1 : V) (H : Heap) : Option (Out × Heap) :=
ref04_Text_C base (cAt [1, 1, 1] ref04_Text_c) (ref04_Text_e base) [(1, t1)] H []
theorem ref04_Text_j8_eq (base : Nat) (t1 : V) (H : Heap) : ref04_Text_j8 base t1 H =
 ref04_Text_l9 base t1 (.str [37, 120]) (.int .i64 0) H := by kernel_rfl
def ref04_Text (base : Nat) (t0 : V) (H : Heap) : Option (Out × Heap) := ref04_Text_C base ref04_Text_c (ref04_Text_e base) [(0, t0)] H []
theorem ref04_Text_eq (base : Nat) (t0 : V) (H : Heap) : ref04_Text base t0 H =
 beff (oVar H t0) fun v0 h1 =>
 bnd (oFieldPtr v0 0) fun v2 =>
 bnd (oLoad false 1 h1 v2) fun v3 =>
 bnd (oBin .eql 6 v3 (.int .i64 1)) fun v4 =>
 cnd v4
 (cnd v4
 (ref04_Text_l1 base v0 (.str []) (.int .i64 0) h1)
 (bnd (oBin .eql 6 v3 (.int .i64 3)) fun v28 =>
 cnd v28
 (bnd (oFieldPtr v0 3) fun v29 =>
 bnd (oLoad false 1 h1 v29) fun v30 =>
 bnd (oBin .eql 6 v30 (.int .i64 0)) fun v31 =>
 bnd (gua v31 true (oFieldPtr v0 4) (some (.tup []))) fun v32 =>
 bnd (gua v31 true (oLoad false 1 h1 v32) (some (.tup []))) fun v33 =>
 bnd (gua v31 true (oBin .eql 6 v33 (.int .i64 1)) (some (.tup []))) fun v34 =>
 bnd (oPick v31 v34 (.bool false)) fun v35 =>
 cnd v35
 (bnd (oFieldPtr v0 5) fun v36 =>
 bnd (oLoad false 1 h1 v36) fun v37 =>
 bnd (oIndexPtr 6 v37 (.int .i64 0)) fun v38 =>
 bnd (oLoad true 6 h1 v38) fun v39 =>
 bcall (E n_ref04_Text [v39] h1) (fun v40 h41 =>
 bnd (oBin .add 6 (.str [91]) v40) fun v42 =>
 bnd (oBin .add 6 v42 (.str [93])) fun v43 =>
 rt false base v43 h41)
 (fun v40 h41 => pn false base v40 h41))
 (bnd (oFieldPtr v0 3) fun v44 =>
 bnd (oLoad false 1 h1 v44) fun v45 =>
 bnd (oBin .gtr 6 v45 (.int .i64 0)) fun v46 =>
 cnd v46
 (bnd (oFieldPtr v0 3) fun v47 =>
 bnd (oLoad false 1 h1 v47) fun v48 =>
 bcall (E n_ref04_Digits [v48] h1) (fun v49 h50 =>
 ref04_Text_j5 base v0 v49 h50)
 (fun v49 h50 => pn false base v49 h50))
 (ref04_Text_j5 base v0 (.str []) h1)))
 (bnd (oBin .eql 6 v3 (.int .i64 4)) fun v75 =>
 cnd v75
 (bnd (oFieldPtr v0 1) fun v76 =>
 bnd (oLoad false 1 h1 v76) fun v77 =>
 rt false base v77 h1)
 (bnd (oBin .eql 6 v3 (.int .i64 5)) fun v78 =>
 cnd v78
 (bnd (oFieldPtr v0 1) fun v79 =>
 bnd (oLoad false 1 h1 v79) fun v80 =>
 bnd (oBin .add 6 (.str [34]) v80) fun v81 =>
 bnd (oBin .add 6 v81 (.str [34])) fun v82 =>
 rt false base v82 h1)
 (ref04_Text_j8 base v0 h1)))))
 (bnd (oBin .eql 6 v3 (.int .i64 2)) fun v107 =>
 cnd v107
 (ref04_Text_l1 base v0 (.str []) (.int .i64 0) h1)
 (bnd (oBin .eql 6 v3 (.int .i64 3)) fun v108 =>
 cnd v108
 (bnd (oFieldPtr v0 3) fun v109 =>
 bnd (oLoad false 1 h1 v109) fun v110 =>
 bnd (oBin .eql 6 v110 (.int .i64 0)) fun v111 =>
 bnd (gua v111 true (oFieldPtr v0 4) (some (.tup []))) fun v112 =>
 bnd (gua v111 true (oLoad false 1 h1 v112) (some (.tup []))) fun v113 =>
 bnd (gua v111 true (oBin .eql 6 v113 (.int .i64 1)) (some (.tup []))) fun v114 =>
 bnd (oPick v111 v114 (.bool false)) fun v115 =>
 cnd v115
 (bnd (oFieldPtr v0 5) fun v116 =>
 bnd (oLoad false 1 h1 v116) fun v117 =>
 bnd (oIndexPtr 6 v117 (.int .i64 0)) fun v118 =>
 bnd (oLoad true 6 h1 v118) fun v119 =>
 bcall (E n_ref04_Text [v119] h1) (fun v120 h121 =>
 bnd (oBin .add 6 (.str [91]) v120) fun v122 =>
 bnd (oBin .add 6 v122 (.str [93])) fun v123 =>
 rt false base v123 h121)
 (fun v120 h121 => pn false base v120 h121))
 (bnd (oFieldPtr v0 3) fun v124 =>
 bnd (oLoad false 1 h1 v124) fun v125 =>
 bnd (oBin .gtr 6 v125 (.int .i64 0)) fun v126 =>
 cnd v126
 (bnd (oFieldPtr v0 3) fun v127 =>
 bnd (oLoad false 1 h1 v127) fun v128 =>
 bcall (E n_ref04_Digits [v128] h1) (fun v129 h130 =>
 ref04_Text_j5 base v0 v129 h130)
 (fun v129 h130 => pn false base v129 h130))
 (ref04_Text_j5 base v0 (.str []) h1)))
 (bnd (oBin .eql 6 v3 (.int .i64 4)) fun v131 =>
 cnd v131
 (bnd (oFieldPtr v0 1) fun v132 =>
 bnd (oLoad false 1 h1 v132) fun v133 =>
 rt false base v133 h1)
 (bnd (oBin .eql 6 v3 (.int .i64 5)) fun v134 =>
 cnd v134
 (bnd (oFieldPtr v0 1) fun v135 =>
 bnd (oLoad false 1 h1 v135) fun v136 =>
 bnd (oBin .add 6 (.str [34]) v136) fun v137 =>
 bnd (oBin .add 6 v137 (.str [34])) fun v138 =>
 rt false base v138 h1)
 (ref04_Text_j8 base v0 h1))))) := by kernel_rfl
theorem ref04_Text_E (t0 : V) (H : Heap) : E n_ref04_Text [t0] H = ref04_Text H.length t0 H := (EV_at Tryd.func39 (by kernel_rfl) (by kernel_rfl) (by kernel_rfl)).trans (by kernel_rfl)

def ref04_fold_c : Code := bodyOf Tryd.f40
def ref04_fold_ks : Ks := [(2, [0, 3])]
def ref04_fold_e (base : Nat) : KC (Out × Heap) := xEnd Tryd.prog D false base 38 Tryd.f40.results.toList
def ref04_fold_C (base : Nat) (c : Code) (k : KC (Out × Heap)) (t : Ts) (H : Heap) (d : Ds) : Option (Out × Heap) := xC Tryd.prog base false ref04_fold_ks E 38 c k t H d
def ref04_fold_l1 (base : Nat) (t0 t3 : V) (H : Heap) : Option (Out × Heap) :=
iterL (fun t H d again => ref04_fold_C base (cAt [1, 0, 1, 0, 0] ref04_fold_c) (loopK ref04_fold_ks (cAt [1, 0, 1, 0, 0] ref04_fold_c) again ((blockK 0 ((seqK (fun _ t => ref04_fold_C base (cAt [1, 1] ref04_fold_c) (ref04_fold_e base) (trimA ref04_fold_ks (cAt [1, 1] ref04_fold_c) t)) (ref04_fold_e base)))))) t H d) [(0, t0), (3, t3)] H []
theorem ref04_fold_l1_eq (base : Nat) (t0 t3 : V) (H : Heap) : ref04_fold_l1 base t0 t3 H =
 bnd (oLenStr t0) fun v0 =>
 bnd (oBin .lss 6 t3 v0) fun v1 =>
 cnd v1
 (bnd (oIndexStr t0 t3) fun v2 =>
 bnd (oBin .lss 6 v2 (.int .u8 32)) fun v3 =>
 bnd (gua v3 false (oMove t0) (some (.tup []))) fun v4 =>
 bnd (gua v3 false (oMove t3) (some (.tup []))) fun v5 =>
 bnd (gua v3 false (oIndexStr v4 v5) (some (.tup []))) fun v6 =>
 bnd (gua v3 false (oBin .gtr 6 v6 (.int .u8 126)) (some (.tup []))) fun v7 =>
 bnd (oPick v3 (.bool true) v7) fun v8 =>
 bnd (gua v8 false (oMove t0) (some (.tup []))) fun v9 =>
 bnd (gua v8 false (oMove t3) (some (.tup []))) fun v10 =>
 bnd (gua v8 false (oIndexStr v9 v10) (some (.tup []))) fun v11 =>
 bnd (gua v8 false (oBin .eql 6 v11 (.int .u8 34)) (some (.tup []))) fun v12 =>
 bnd (oPick v8 (.bool true) v12) fun v13 =>
 bnd (gua v13 false (oMove t0) (some (.tup []))) fun v14 =>
 bnd (gua v13 false (oMove t3) (some (.tup []))) fun v15 =>
 bnd (gua v13 false (oIndexStr v14 v15) (some (.tup []))) fun v16 =>
 bnd (gua v13 false (oBin .geq 6 v16 (.int .u8 65)) (some (.tup []))) fun v17 =>
 bnd (gua v13 false (oMove v17) (some (.tup []))) fun v18 =>
 bnd (gua v18 true (oMove t0) (some (.tup []))) fun v19 =>
 bnd (gua v18 true (oMove t3) (some (.tup []))) fun v20 =>
 bnd (gua v18 true (oIndexStr v19 v20) (some (.tup []))) fun v21 =>
 bnd (gua v18 true (oBin .leq 6 v21 (.int .u8 90)) (some (.tup []))) fun v22 =>
 bnd (gua v13 false (oPick v18 v22 (.bool false)) (some (.tup []))) fun v23 =>
 bnd (oPick v13 (.bool true) v23) fun v24 =>
 cnd v24
 (rt false base (.bool false) H)
 (bnd (oBin .add 6 t3 (.int .i64 1)) fun v25 =>
 ref04_fold_l1 base t0 v25 H))
 (rt false base (.bool true) H) := (loop_eq (cAt [1, 0, 1, 0, 0] ref04_fold_c) ((blockK 0 ((seqK (fun _ t => ref04_fold_C base (cAt [1, 1] ref04_fold_c) (ref04_fold_e base) (trimA ref04_fold_ks (cAt [1, 1] ref04_fold_c) t)) (ref04_fold_e base))))) _ H []).trans (by kernel_rfl)
def ref04_fold (base : Nat) (t0 : V) (H : Heap) : Option (Out × Heap) := ref04_fold_C base ref04_fold_c (ref04_fold_e base) [(0, t0)] H []
theorem ref04_fold_eq (base : Nat) (t0 : V) (H : Heap) : ref04_fold base t0 H =
 ref04_fold_l1 base t0 (.int .i64 0) H := by kernel_rfl
theorem ref04_fold_E (t0 : V) (H : Heap) : E n_ref04_fold [t0] H = ref04_fold H.length t0 H := (EV_at Tryd.func40 (by kernel_rfl) (by kernel_rfl) (by kernel_rfl)).trans (by kernel_rfl)

def ref04_nums_c : Code := bodyOf Tryd.f41
def ref04_nums_ks : Ks := [(2, [0, 1, 2, 7])]
def ref04_nums_e (base : Nat) : KC (Out × Heap) := xEnd Tryd.prog D false base 36 Tryd.f41.results.toList
def ref04_nums_C (base : Nat) (c : Code) (k : KC (Out × Heap)) (t : Ts) (H : Heap) (d : Ds) : Option (Out × Heap) := xC Tryd.prog base false ref04_nums_ks E 36 c k t H d
def ref04_nums_l1 (base : Nat) (t0 t1 t2 t7 : V) (H : Heap) : Option (Out × Heap) :=
iterL (fun t H d again => ref04_nums_C base (cAt [1, 0, 1, 0, 0] ref04_nums_c) (loopK ref04_nums_ks (cAt [1, 0, 1, 0, 0] ref04_nums_c) again ((blockK 0 ((seqK (fun _ t => ref04_nums_C base (cAt [1, 1] ref04_nums_c) (ref04_nums_e base) (trimA ref04_nums_ks (cAt [1, 1] ref04_nums_c) t)) (ref04_nums_e base)))))) t H d) [(0, t0), (1, t1), (2, t2), (7, t7)] H []
theorem ref04_nums_l1_eq (base : Nat) (t0 t1 t2 t7 : V) (H : Heap) : ref04_nums_l1 base t0 t1 t2 t7 H =
 bnd (oLenSl t0) fun v0 =>
 bnd (oBin .lss 6 t7 v0) fun v1 =>
 cnd v1
 (bnd (oIndexPtr 1 t0 t7) fun v2 =>
 bnd (oLoad false 1 H v2) fun v3 =>
 bnd (oBin .lss 6 v3 (.int .i64 0)) fun v4 =>
 bnd (gua v4 false (oMove t0) (some (.tup []))) fun v5 =>
 bnd (gua v4 false (oMove t7) (some (.tup []))) fun v6 =>
 bnd (gua v4 false (oIndexPtr 1 v5 v6) (some (.tup []))) fun v7 =>
 bnd (gua v4 false (oLoad false 1 H v7) (some (.tup []))) fun v8 =>
 bnd (gua v4 false (oBin .gtr 6 v8 (.int .i64 1114111)) (some (.tup []))) fun v9 =>
 bnd (oPick v4 (.bool true) v9) fun v10 =>
 cnd v10
 (rt false base (.bool false) H)
 (bnd (oBin .add 6 t7 (.int .i64 1)) fun v11 =>
 ref04_nums_l1 base t0 t1 t2 v11 H))
 (bnd (oLenSl t0) fun v12 =>
 bnd (oBin .geq 6 v12 t1) fun v13 =>
 bnd (gua v13 true (oMove t0) (some (.tup []))) fun v14 =>
 bnd (gua v13 true (oLenSl v14) (some (.tup []))) fun v15 =>
 bnd (gua v13 true (oMove t2) (some (.tup []))) fun v16 =>
 bnd (gua v13 true (oBin .leq 6 v15 v16) (some (.tup []))) fun v17 =>
 bnd (oPick v13 v17 (.bool false)) fun v18 =>
 rt false base v18 H) := (loop_eq (cAt [1, 0, 1, 0, 0] ref04_nums_c) ((blockK 0 ((seqK (fun _ t => ref04_nums_C base (cAt [1, 1] ref04_nums_c) (ref04_nums_e base) (trimA ref04_nums_ks (cAt [1, 1] ref04_nums_c) t)) (ref04_nums_e base))))) _ H []).trans (by kernel_rfl)
def ref04_nums (base : Nat) (t0 t1 t2 : V) (H : Heap) : Option (Out × Heap) := ref04_nums_C base ref04_nums_c (ref04_nums_e base) [(0, t0), (1, t1), (2, t2)] H []
theorem ref04_nums_eq (base : Nat) (t0 t1 t2 : V) (H : Heap) : ref04_nums base t0 t1 t2 H =
 ref04_nums_l1 base t0 t1 t2 (.int .i64 0) H := by kernel_rfl
theorem ref04_nums_E (t0 t1 t2 : V) (H : Heap) : E n_ref04_nums [t0, t1, t2] H = ref04_nums H.length t0 t1 t2 H := (EV_at Tryd.func41 (by kernel_rfl) (by kernel_rfl) (by kernel_rfl)).trans (by kernel_rfl)

def teller_texts_c : Code := bodyOf Tryd.f44
def teller_texts_ks : Ks := []
def teller_texts_e (base : Nat) : KC (Out × Heap) := xEnd Tryd.prog D false base 8 Tryd.f44.results.toList
def teller_texts_C (base : Nat) (c : Code) (k : KC (Out × Heap)) (t : Ts) (H : Heap) (d : Ds) : Option (Out × Heap) := xC Tryd.prog base false teller_texts_ks E 8 c k t H d
def teller_texts (base : Nat) (t0 t1 : V) (H : Heap) : Option (Out × Heap) := teller_texts_C base teller_texts_c (teller_texts_e base) [(0, t0), (1, t1)] H []
theorem teller_texts_eq (base : Nat) (t0 t1 : V) (H : Heap) : teller_texts base t0 t1 H =
 beff (oVar H t1) fun v0 h1 =>
 bnd (oMkFn n_teller_texts_1 [v0]) fun v2 =>
 bcall (E n_teller_each_api_Expr [t0, v2] h1) (fun v3 h4 =>
 rt false base v3 h4)
 (fun v3 h4 => pn false base v3 h4) := by kernel_rfl
theorem teller_texts_E (t0 t1 : V) (H : Heap) : E n_teller_texts [t0, t1] H = teller_texts H.length t0 t1 H := (EV_at Tryd.func44 (by kernel_rfl) (by kernel_rfl) (by kernel_rfl)).trans (by kernel_rfl)

def teller_often_c : Code := bodyOf Tryd.f45
def teller_often_ks : Ks := [(6, [1, 3]), (10, [3])]
def teller_often_e (base : Nat) : KC (Out × Heap) := xEnd Tryd.prog D false base 29 Tryd.f45.results.toList
def teller_often_C (base : Nat) (c : Code) (k : KC (Out × Heap)) (t : Ts) (H : Heap) (d : Ds) : Option (Out × Heap) := xC Tryd.prog base false teller_often_ks E 29 c k t H d
def teller_often_j2 (base : Nat) (t3 : V) (H : Heap) : Option (Out × Heap) :=
teller_often_C base (cAt [1, 1, 1, 1, 1] teller_often_c) (teller_often_e base) [(3, t3)] H []
theorem teller_often_j2_eq (base : Nat) (t3 : V) (H : Heap) : teller_often_j2 base t3 H =
 rt false base t3 H := by kernel_rfl
def teller_often_j1 (base : Nat) (t1 t3 : V) (H : Heap) : Option (Out × Heap) :=
teller_often_C base (cAt [1, 1, 1, 1] teller_often_c) (teller_often_e base) [(1, t1), (3, t3)] H []
theorem teller_often_j1_eq (base : Nat) (t1 t3 : V) (H : Heap) : teller_often_j1 base t1 t3 H =
 bnd (oFieldPtr t1 4) fun v12 =>
 bnd (oLoad false 1 H v12) fun v13 =>
 bnd (oFieldPtr t1 3) fun v14 =>
 bnd (oLoad false 1 H v14) fun v15 =>
 bnd (oBin .neq 6 v13 v15) fun v16 =>
 cnd v16
 (bnd (oBin .add 6 t3 (.str [42])) fun v17 =>
 bnd (oFieldPtr t1 4) fun v18 =>
 bnd (oLoad false 1 H v18) fun v19 =>
 bnd (oBin .geq 6 v19 (.int .i64 0)) fun v20 =>
 cnd v20
 (bnd (oFieldPtr t1 4) fun v21 =>
 bnd (oLoad false 1 H v21) fun v22 =>
 bcall (E n_strconv_Itoa [v22] H) (fun v23 h24 =>
 bnd (oBin .add 6 v17 v23) fun v25 =>
 teller_often_j2 base v25 h24)
 (fun v23 h24 => pn false base v23 h24))
 (teller_often_j2 base v17 H))
 (teller_often_j2 base t3 H) := by kernel_rfl
def teller_often (base : Nat) (t0 : V) (H : Heap) : Option (Out × Heap) := teller_often_C base teller_often_c (teller_often_e base) [(0, t0)] H []
theorem teller_often_eq (base : Nat) (t0 : V) (H : Heap) : teller_often base t0 H =
 beff (oVar H t0) fun v0 h1 =>
 bnd (oFieldPtr v0 4) fun v2 =>
 bnd (oLoad false 1 h1 v2) fun v3 =>
 bnd (oBin .eql 6 v3 (.int .i64 0)) fun v4 =>
 cnd v4
 (rt false base (.str [48]) h1)
 (bnd (oFieldPtr v0 3) fun v5 =>
 bnd (oLoad false 1 h1 v5) fun v6 =>
 bnd (oBin .gtr 6 v6 (.int .i64 0)) fun v7 =>
 cnd v7
 (bnd (oFieldPtr v0 3) fun v8 =>
 bnd (oLoad false 1 h1 v8) fun v9 =>
 bcall (E n_strconv_Itoa [v9] h1) (fun v10 h11 =>
 teller_often_j1 base v0 v10 h11)
 (fun v10 h11 => pn false base v10 h11))
 (teller_often_j1 base v0 (.str []) h1)) := by kernel_rfl
theorem teller_often_E (t0 : V) (H : Heap) : E n_teller_often [t0] H = teller_often H.length t0 H := (EV_at Tryd.func45 (by kernel_rfl) (by kernel_rfl) (by kernel_rfl)).trans (by kernel_rfl)

def teller_numbers_c : Code := bodyOf Tryd.f46
def teller_numbers_ks : Ks := []
def teller_numbers_e (base : Nat) : KC (Out × Heap) := xEnd Tryd.prog D false base 10 Tryd.f46.results.toList
def teller_numbers_C (base : Nat) (c : Code) (k : KC (Out × Heap)) (t : Ts) (H : Heap) (d : Ds) : Option (Out × Heap) := xC Tryd.prog base false teller_numbers_ks E 10 c k t H d
def teller_numbers (base : Nat) (t0 t1 : V) (H : Heap) : Option (Out × Heap) := teller_numbers_C base teller_numbers_c (teller_numbers_e base) [(0, t0), (1, t1)] H []
theorem teller_numbers_eq (base : Nat) (t0 t1 : V) (H : Heap) : teller_numbers base t0 t1 H =
 bcall (E n_teller_each_int [t0, (.fn n_teller_digits [])] H) (fun v0 h1 =>
 bcall (E n_strings_Join [v0, t1] h1) (fun v2 h3 =>
 bnd (oBin .add 6 (.str [37, 120]) v2) fun v4 =>
 rt false base v4 h3)
 (fun v2 h3 => pn false base v2 h3))
 (fun v0 h1 => pn false base v0 h1) := by kernel_rfl
theorem teller_numbers_E (t0 t1 : V) (H : Heap) : E n_teller_numbers [t0, t1] H = teller_numbers H.length t0 t1 H := (EV_at Tryd.func46 (by kernel_rfl) (by kernel_rfl) (by kernel_rfl)).trans (by kernel_rfl)
end
end Go.Proofs.YthcjjicplodhjaaDoor
end

