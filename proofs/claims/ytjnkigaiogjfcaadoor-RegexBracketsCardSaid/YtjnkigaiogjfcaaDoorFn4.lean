/- Fn4: a part of the proof that each law of this seat answers true at every input. No condition. -/
import Derived.Test.YtjnkigaiogjfcaaDoorHint
import Derived.KernelRfl
set_option linter.unusedVariables false
set_option linter.unusedSimpArgs false
set_option maxRecDepth 20000
section
/- Printed: what functions do. -/
namespace Go.Proofs.YtjnkigaiogjfcaaDoor
open Go Go.Ev
set_option linter.unusedVariables false
noncomputable section

def slices_stableCmpFunc_api_Re_c : Code := bodyOf Tryd.f61
def slices_stableCmpFunc_api_Re_ks : Ks := [(2, [0, 1, 2, 6, 7, 8]), (7, [0, 1, 2, 6]), (9, [0, 1, 2, 6, 7, 8]), (16, [0, 1, 2, 6])]
def slices_stableCmpFunc_api_Re_e (base : Nat) : KC (Out × Heap) := xEnd Tryd.prog D false base 63 Tryd.f61.results.toList
def slices_stableCmpFunc_api_Re_C (base : Nat) (c : Code) (k : KC (Out × Heap)) (t : Ts) (H : Heap) (d : Ds) : Option (Out × Heap) := xC Tryd.prog base true slices_stableCmpFunc_api_Re_ks E 63 c k t H d
def slices_stableCmpFunc_api_Re_l1 (base : Nat) (t0 t1 t2 t6 t7 t8 : V) (H : Heap) : Option (Out × Heap) :=
iterL (fun t H d again => slices_stableCmpFunc_api_Re_C base (cAt [1, 1, 0, 0, 0] slices_stableCmpFunc_api_Re_c) (loopK slices_stableCmpFunc_api_Re_ks (cAt [1, 1, 0, 0, 0] slices_stableCmpFunc_api_Re_c) again ((blockK 0 ((seqK (fun _ t => slices_stableCmpFunc_api_Re_C base (cAt [1, 1, 1] slices_stableCmpFunc_api_Re_c) (slices_stableCmpFunc_api_Re_e base) (trimA slices_stableCmpFunc_api_Re_ks (cAt [1, 1, 1] slices_stableCmpFunc_api_Re_c) t)) (slices_stableCmpFunc_api_Re_e base)))))) t H d) [(0, t0), (1, t1), (2, t2), (6, t6), (7, t7), (8, t8)] H []
def slices_stableCmpFunc_api_Re_l2 (base : Nat) (t0 t1 t2 t6 : V) (H : Heap) : Option (Out × Heap) :=
iterL (fun t H d again => slices_stableCmpFunc_api_Re_C base (cAt [1, 1, 1, 1, 0, 0] slices_stableCmpFunc_api_Re_c) (loopK slices_stableCmpFunc_api_Re_ks (cAt [1, 1, 1, 1, 0, 0] slices_stableCmpFunc_api_Re_c) again ((blockK 2 (slices_stableCmpFunc_api_Re_e base)))) t H d) [(0, t0), (1, t1), (2, t2), (6, t6)] H []
def slices_stableCmpFunc_api_Re_l3 (base : Nat) (t0 t1 t2 t6 t7 t8 : V) (H : Heap) : Option (Out × Heap) :=
iterL (fun t H d again => slices_stableCmpFunc_api_Re_C base (cAt [1, 1, 1, 1, 0, 0, 1, 0, 1, 0, 0, 0] slices_stableCmpFunc_api_Re_c) (loopK slices_stableCmpFunc_api_Re_ks (cAt [1, 1, 1, 1, 0, 0, 1, 0, 1, 0, 0, 0] slices_stableCmpFunc_api_Re_c) again ((blockK 4 ((seqK (fun _ t => slices_stableCmpFunc_api_Re_C base (cAt [1, 1, 1, 1, 0, 0, 1, 0, 1, 1] slices_stableCmpFunc_api_Re_c) ((blockK 3 ((loopK slices_stableCmpFunc_api_Re_ks (cAt [1, 1, 1, 1, 0, 0] slices_stableCmpFunc_api_Re_c) (iterL (fun t H d again => slices_stableCmpFunc_api_Re_C base (cAt [1, 1, 1, 1, 0, 0] slices_stableCmpFunc_api_Re_c) (loopK slices_stableCmpFunc_api_Re_ks (cAt [1, 1, 1, 1, 0, 0] slices_stableCmpFunc_api_Re_c) again ((blockK 2 (slices_stableCmpFunc_api_Re_e base)))) t H d)) ((blockK 2 (slices_stableCmpFunc_api_Re_e base))))))) (trimA slices_stableCmpFunc_api_Re_ks (cAt [1, 1, 1, 1, 0, 0, 1, 0, 1, 1] slices_stableCmpFunc_api_Re_c) t)) ((blockK 3 ((loopK slices_stableCmpFunc_api_Re_ks (cAt [1, 1, 1, 1, 0, 0] slices_stableCmpFunc_api_Re_c) (iterL (fun t H d again => slices_stableCmpFunc_api_Re_C base (cAt [1, 1, 1, 1, 0, 0] slices_stableCmpFunc_api_Re_c) (loopK slices_stableCmpFunc_api_Re_ks (cAt [1, 1, 1, 1, 0, 0] slices_stableCmpFunc_api_Re_c) again ((blockK 2 (slices_stableCmpFunc_api_Re_e base)))) t H d)) ((blockK 2 (slices_stableCmpFunc_api_Re_e base)))))))))))) t H d) [(0, t0), (1, t1), (2, t2), (6, t6), (7, t7), (8, t8)] H []
def slices_stableCmpFunc_api_Re_j4 (base : Nat) (t0 t1 t2 t6 : V) (H : Heap) : Option (Out × Heap) :=
slices_stableCmpFunc_api_Re_C base (cAt [1, 1, 1, 1, 0, 0, 1, 0, 1, 1, 1] slices_stableCmpFunc_api_Re_c) ((blockK 3 ((loopK slices_stableCmpFunc_api_Re_ks (cAt [1, 1, 1, 1, 0, 0] slices_stableCmpFunc_api_Re_c) (iterL (fun t H d again => slices_stableCmpFunc_api_Re_C base (cAt [1, 1, 1, 1, 0, 0] slices_stableCmpFunc_api_Re_c) (loopK slices_stableCmpFunc_api_Re_ks (cAt [1, 1, 1, 1, 0, 0] slices_stableCmpFunc_api_Re_c) again ((blockK 2 (slices_stableCmpFunc_api_Re_e base)))) t H d)) ((blockK 2 (slices_stableCmpFunc_api_Re_e base))))))) [(0, t0), (1, t1), (2, t2), (6, t6)] H []
theorem slices_stableCmpFunc_api_Re_j4_eq (base : Nat) (t0 t1 t2 t6 : V) (H : Heap) : slices_stableCmpFunc_api_Re_j4 base t0 t1 t2 t6 H =
 bnd (oBin .mul 6 t6 (.int .i64 2)) fun v18 =>
 slices_stableCmpFunc_api_Re_l2 base t0 t1 t2 v18 H := by kernel_rfl
theorem slices_stableCmpFunc_api_Re_l3_eq (base : Nat) (t0 t1 t2 t6 t7 t8 : V) (H : Heap) : slices_stableCmpFunc_api_Re_l3 base t0 t1 t2 t6 t7 t8 H =
 bnd (oBin .leq 6 t8 t1) fun v8 =>
 cnd v8
 (bnd (oBin .add 6 t7 t6) fun v9 =>
 bcall (E n_slices_symMergeCmpFunc_api_Re [t0, t7, v9, t8, t2] H) (fun v10 h11 =>
 bnd (oBin .mul 6 (.int .i64 2) t6) fun v12 =>
 bnd (oBin .add 6 t8 v12) fun v13 =>
 slices_stableCmpFunc_api_Re_l3 base t0 t1 t2 t6 t8 v13 h11)
 (fun v10 h11 => pn false base v10 h11))
 (bnd (oBin .add 6 t7 t6) fun v14 =>
 bnd (oBin .lss 6 v14 t1) fun v15 =>
 cnd v15
 (bcall (E n_slices_symMergeCmpFunc_api_Re [t0, t7, v14, t1, t2] H) (fun v16 h17 =>
 slices_stableCmpFunc_api_Re_j4 base t0 t1 t2 t6 h17)
 (fun v16 h17 => pn false base v16 h17))
 (slices_stableCmpFunc_api_Re_j4 base t0 t1 t2 t6 H)) := (loop_eq (cAt [1, 1, 1, 1, 0, 0, 1, 0, 1, 0, 0, 0] slices_stableCmpFunc_api_Re_c) ((blockK 4 ((seqK (fun _ t => slices_stableCmpFunc_api_Re_C base (cAt [1, 1, 1, 1, 0, 0, 1, 0, 1, 1] slices_stableCmpFunc_api_Re_c) ((blockK 3 ((loopK slices_stableCmpFunc_api_Re_ks (cAt [1, 1, 1, 1, 0, 0] slices_stableCmpFunc_api_Re_c) (iterL (fun t H d again => slices_stableCmpFunc_api_Re_C base (cAt [1, 1, 1, 1, 0, 0] slices_stableCmpFunc_api_Re_c) (loopK slices_stableCmpFunc_api_Re_ks (cAt [1, 1, 1, 1, 0, 0] slices_stableCmpFunc_api_Re_c) again ((blockK 2 (slices_stableCmpFunc_api_Re_e base)))) t H d)) ((blockK 2 (slices_stableCmpFunc_api_Re_e base))))))) (trimA slices_stableCmpFunc_api_Re_ks (cAt [1, 1, 1, 1, 0, 0, 1, 0, 1, 1] slices_stableCmpFunc_api_Re_c) t)) ((blockK 3 ((loopK slices_stableCmpFunc_api_Re_ks (cAt [1, 1, 1, 1, 0, 0] slices_stableCmpFunc_api_Re_c) (iterL (fun t H d again => slices_stableCmpFunc_api_Re_C base (cAt [1, 1, 1, 1, 0, 0] slices_stableCmpFunc_api_Re_c) (loopK slices_stableCmpFunc_api_Re_ks (cAt [1, 1, 1, 1, 0, 0] slices_stableCmpFunc_api_Re_c) again ((blockK 2 (slices_stableCmpFunc_api_Re_e base)))) t H d)) ((blockK 2 (slices_stableCmpFunc_api_Re_e base))))))))))) _ H []).trans (by kernel_rfl)
theorem slices_stableCmpFunc_api_Re_l2_eq (base : Nat) (t0 t1 t2 t6 : V) (H : Heap) : slices_stableCmpFunc_api_Re_l2 base t0 t1 t2 t6 H =
 bnd (oBin .lss 6 t6 t1) fun v6 =>
 cnd v6
 (bnd (oBin .mul 6 (.int .i64 2) t6) fun v7 =>
 slices_stableCmpFunc_api_Re_l3 base t0 t1 t2 t6 (.int .i64 0) v7 H)
 (rt false base (.tup []) H) := (loop_eq (cAt [1, 1, 1, 1, 0, 0] slices_stableCmpFunc_api_Re_c) ((blockK 2 (slices_stableCmpFunc_api_Re_e base))) _ H []).trans (by kernel_rfl)
theorem slices_stableCmpFunc_api_Re_l1_eq (base : Nat) (t0 t1 t2 t6 t7 t8 : V) (H : Heap) : slices_stableCmpFunc_api_Re_l1 base t0 t1 t2 t6 t7 t8 H =
 bnd (oBin .leq 6 t8 t1) fun v0 =>
 cnd v0
 (bcall (E n_slices_insertionSortCmpFunc_api_Re [t0, t7, t8, t2] H) (fun v1 h2 =>
 bnd (oBin .add 6 t8 t6) fun v3 =>
 slices_stableCmpFunc_api_Re_l1 base t0 t1 t2 t6 t8 v3 h2)
 (fun v1 h2 => pn false base v1 h2))
 (bcall (E n_slices_insertionSortCmpFunc_api_Re [t0, t7, t1, t2] H) (fun v4 h5 =>
 slices_stableCmpFunc_api_Re_l2 base t0 t1 t2 t6 h5)
 (fun v4 h5 => pn false base v4 h5)) := (loop_eq (cAt [1, 1, 0, 0, 0] slices_stableCmpFunc_api_Re_c) ((blockK 0 ((seqK (fun _ t => slices_stableCmpFunc_api_Re_C base (cAt [1, 1, 1] slices_stableCmpFunc_api_Re_c) (slices_stableCmpFunc_api_Re_e base) (trimA slices_stableCmpFunc_api_Re_ks (cAt [1, 1, 1] slices_stableCmpFunc_api_Re_c) t)) (slices_stableCmpFunc_api_Re_e base))))) _ H []).trans (by kernel_rfl)
def slices_stableCmpFunc_api_Re (base : Nat) (t0 t1 t2 : V) (H : Heap) : Option (Out × Heap) := slices_stableCmpFunc_api_Re_C base slices_stableCmpFunc_api_Re_c (slices_stableCmpFunc_api_Re_e base) [(0, t0), (1, t1), (2, t2)] H []
theorem slices_stableCmpFunc_api_Re_eq (base : Nat) (t0 t1 t2 : V) (H : Heap) : slices_stableCmpFunc_api_Re base t0 t1 t2 H =
 slices_stableCmpFunc_api_Re_l1 base t0 t1 t2 (.int .i64 20) (.int .i64 0) (.int .i64 20) H := by kernel_rfl
theorem slices_stableCmpFunc_api_Re_E (t0 t1 t2 : V) (H : Heap) : E n_slices_stableCmpFunc_api_Re [t0, t1, t2] H = slices_stableCmpFunc_api_Re H.length t0 t1 t2 H := (EV_at Tryd.func61 (by kernel_rfl) (by kernel_rfl) (by kernel_rfl)).trans (by kernel_rfl)

def regex_set_c : Code := bodyOf Tryd.f65
def regex_set_ks : Ks := [(3, [3, 7, 8, 9])]
def regex_set_e (base : Nat) : KC (Out × Heap) := xEnd Tryd.prog D false base 29 Tryd.f65.results.toList
def regex_set_C (base : Nat) (c : Code) (k : KC (Out × Heap)) (t : Ts) (H : Heap) (d : Ds) : Option (Out × Heap) := xC Tryd.prog base false regex_set_ks E 29 c k t H d
def regex_set_l1 (base : Nat) (t3 t7 t8 t9 : V) (H : Heap) : Option (Out × Heap) :=
iterL (fun t H d again => regex_set_C base (cAt [1, 1, 0, 1, 0, 0] regex_set_c) (loopK regex_set_ks (cAt [1, 1, 0, 1, 0, 0] regex_set_c) again ((blockK 0 ((seqK (fun _ t => regex_set_C base (cAt [1, 1, 1] regex_set_c) (regex_set_e base) (trimA regex_set_ks (cAt [1, 1, 1] regex_set_c) t)) (regex_set_e base)))))) t H d) [(3, t3), (7, t7), (8, t8), (9, t9)] H []
theorem regex_set_l1_eq (base : Nat) (t3 t7 t8 t9 : V) (H : Heap) : regex_set_l1 base t3 t7 t8 t9 H =
 bnd (oBin .lss 6 t9 t8) fun v6 =>
 cnd v6
 (bnd (oIndexPtr 2 t7 t9) fun v7 =>
 bnd (oLoad true 2 H v7) fun v8 =>
 beff (oVar H (.agg [(.int .i64 0), (.int .i64 0)])) fun v9 h10 =>
 beff (oStore base 2 h10 v9 v8) fun v11 h12 =>
 bnd (oFieldPtr v9 0) fun v13 =>
 bnd (oLoad false 1 h12 v13) fun v14 =>
 bcall (E n_strconv_Itoa [v14] h12) (fun v15 h16 =>
 bnd (oBin .add 6 v15 (.str [45])) fun v17 =>
 bnd (oFieldPtr v9 1) fun v18 =>
 bnd (bnd (oLoad false 1 h16 v18) fun v19 => sch (sam (oLoad false 1 h12 v18) v19) (
 some v19)) fun v19 =>
 bcall (E n_strconv_Itoa [v19] h16) (fun v20 h21 =>
 bnd (oBin .add 6 v17 v20) fun v22 =>
 bnd (oLit 1 1 (.str []) [(0, v22)]) fun v23 =>
 beff (oAppend base 1 16 false t3 v23 h21) fun v24 h25 =>
 bnd (oBin .add 6 t9 (.int .i64 1)) fun v26 =>
 regex_set_l1 base v24 t7 t8 v26 h25)
 (fun v20 h21 => pn false base v20 h21))
 (fun v15 h16 => sch (tlb (oFieldPtr v9 1) fun v27 => tlb (oLoad false 1 h12 v27) fun v28 => true) (pn false base v15 h16)))
 (bcall (E n_strings_Join [t3, (.str [44])] H) (fun v29 h30 =>
 bnd (oBin .add 6 (.str [91]) v29) fun v31 =>
 bnd (oBin .add 6 v31 (.str [93])) fun v32 =>
 rt false base v32 h30)
 (fun v29 h30 => pn false base v29 h30)) := (loop_eq (cAt [1, 1, 0, 1, 0, 0] regex_set_c) ((blockK 0 ((seqK (fun _ t => regex_set_C base (cAt [1, 1, 1] regex_set_c) (regex_set_e base) (trimA regex_set_ks (cAt [1, 1, 1] regex_set_c) t)) (regex_set_e base))))) _ H []).trans (by kernel_rfl)
def regex_set (base : Nat) (t0 : V) (H : Heap) : Option (Out × Heap) := regex_set_C base regex_set_c (regex_set_e base) [(0, t0)] H []
theorem regex_set_eq (base : Nat) (t0 : V) (H : Heap) : regex_set base t0 H =
 beff (oVar H t0) fun v0 h1 =>
 bnd (oLoad true 4 h1 v0) fun v2 =>
 bcall (E n_byteset_Ranges [v2] h1) (fun v3 h4 =>
 bnd (oLenSl v3) fun v5 =>
 regex_set_l1 base .nils v3 v5 (.int .i64 0) h4)
 (fun v3 h4 => pn false base v3 h4) := by kernel_rfl
theorem regex_set_E (t0 : V) (H : Heap) : E n_regex_set [t0] H = regex_set H.length t0 H := (EV_at Tryd.func65 (by kernel_rfl) (by kernel_rfl) (by kernel_rfl)).trans (by kernel_rfl)

def ref01_pick_c : Code := bodyOf Tryd.f66
def ref01_pick_ks : Ks := [(3, [2, 3, 4, 5, 6, 7, 12, 13, 14]), (4, [2, 3, 4, 5, 6, 7, 12, 13, 14])]
def ref01_pick_e (base : Nat) : KC (Out × Heap) := xEnd Tryd.prog D false base 69 Tryd.f66.results.toList
def ref01_pick_C (base : Nat) (c : Code) (k : KC (Out × Heap)) (t : Ts) (H : Heap) (d : Ds) : Option (Out × Heap) := xC Tryd.prog base false ref01_pick_ks E 69 c k t H d
def ref01_pick_l1 (base : Nat) (t2 t3 t4 t5 t6 t7 t12 t13 t14 : V) (H : Heap) : Option (Out × Heap) :=
iterL (fun t H d again => ref01_pick_C base (cAt [1, 1, 0, 1, 0, 0] ref01_pick_c) (loopK ref01_pick_ks (cAt [1, 1, 0, 1, 0, 0] ref01_pick_c) again ((blockK 0 ((seqK (fun _ t => ref01_pick_C base (cAt [1, 1, 1] ref01_pick_c) (ref01_pick_e base) (trimA ref01_pick_ks (cAt [1, 1, 1] ref01_pick_c) t)) (ref01_pick_e base)))))) t H d) [(2, t2), (3, t3), (4, t4), (5, t5), (6, t6), (7, t7), (12, t12), (13, t13), (14, t14)] H []
def ref01_pick_j2 (base : Nat) (t2 t3 t4 t5 t6 t7 t12 t13 t14 : V) (H : Heap) : Option (Out × Heap) :=
ref01_pick_C base (cAt [1, 1, 0, 1, 0, 0, 1, 1] ref01_pick_c) ((loopK ref01_pick_ks (cAt [1, 1, 0, 1, 0, 0] ref01_pick_c) (iterL (fun t H d again => ref01_pick_C base (cAt [1, 1, 0, 1, 0, 0] ref01_pick_c) (loopK ref01_pick_ks (cAt [1, 1, 0, 1, 0, 0] ref01_pick_c) again ((blockK 0 ((seqK (fun _ t => ref01_pick_C base (cAt [1, 1, 1] ref01_pick_c) (ref01_pick_e base) (trimA ref01_pick_ks (cAt [1, 1, 1] ref01_pick_c) t)) (ref01_pick_e base)))))) t H d)) ((blockK 0 ((seqK (fun _ t => ref01_pick_C base (cAt [1, 1, 1] ref01_pick_c) (ref01_pick_e base) (trimA ref01_pick_ks (cAt [1, 1, 1] ref01_pick_c) t)) (ref01_pick_e base))))))) [(2, t2), (3, t3), (4, t4), (5, t5), (6, t6), (7, t7), (12, t12), (13, t13), (14, t14)] H []
theorem ref01_pick_j2_eq (base : Nat) (t2 t3 t4 t5 t6 t7 t12 t13 t14 : V) (H : Heap) : ref01_pick_j2 base t2 t3 t4 t5 t6 t7 t12 t13 t14 H =
 bnd (oBin .add 6 t14 (.int .i64 1)) fun v52 =>
 ref01_pick_l1 base t2 t3 t4 t5 t6 t7 t12 t13 v52 H := by kernel_rfl
theorem ref01_pick_l1_eq (base : Nat) (t2 t3 t4 t5 t6 t7 t12 t13 t14 : V) (H : Heap) : ref01_pick_l1 base t2 t3 t4 t5 t6 t7 t12 t13 t14 H =
 bnd (oBin .lss 6 t14 (.int .i64 256)) fun v8 =>
 cnd v8
 (bnd (oLoad true 4 H t6) fun v9 =>
 bcall (E n_ref01_Has [v9, t14] H) (fun v10 h11 =>
 bnd (bnd (oLoad true 4 h11 t7) fun v12 => sch (sam (oLoad true 4 H t7) v12) (
 some v12)) fun v12 =>
 bcall (E n_ref01_Has [v12, t14] h11) (fun v13 h14 =>
 bnd (oUn .not v10) fun v15 =>
 bnd (gua v15 true (oMove v13) (some (.tup []))) fun v16 =>
 bnd (gua v15 true (oUn .not v16) (some (.tup []))) fun v17 =>
 bnd (oPick v15 v17 (.bool false)) fun v18 =>
 bnd (gua v18 true (oMove t2) (some (.tup []))) fun v19 =>
 bnd (oPick v18 v19 (.bool false)) fun v20 =>
 bnd (gua v20 false (oMove v10) (some (.tup []))) fun v21 =>
 bnd (gua v20 false (oMove v21) (some (.tup []))) fun v22 =>
 bnd (gua v22 true (oMove v13) (some (.tup []))) fun v23 =>
 bnd (gua v22 true (oUn .not v23) (some (.tup []))) fun v24 =>
 bnd (gua v20 false (oPick v22 v24 (.bool false)) (some (.tup []))) fun v25 =>
 bnd (gua v20 false (oMove v25) (some (.tup []))) fun v26 =>
 bnd (gua v26 true (oMove t3) (some (.tup []))) fun v27 =>
 bnd (gua v20 false (oPick v26 v27 (.bool false)) (some (.tup []))) fun v28 =>
 bnd (oPick v20 (.bool true) v28) fun v29 =>
 bnd (gua v29 false (oMove v10) (some (.tup []))) fun v30 =>
 bnd (gua v29 false (oUn .not v30) (some (.tup []))) fun v31 =>
 bnd (gua v29 false (oMove v31) (some (.tup []))) fun v32 =>
 bnd (gua v32 true (oMove v13) (some (.tup []))) fun v33 =>
 bnd (gua v29 false (oPick v32 v33 (.bool false)) (some (.tup []))) fun v34 =>
 bnd (gua v29 false (oMove v34) (some (.tup []))) fun v35 =>
 bnd (gua v35 true (oMove t4) (some (.tup []))) fun v36 =>
 bnd (gua v29 false (oPick v35 v36 (.bool false)) (some (.tup []))) fun v37 =>
 bnd (oPick v29 (.bool true) v37) fun v38 =>
 bnd (gua v38 false (oMove v10) (some (.tup []))) fun v39 =>
 bnd (gua v38 false (oMove v39) (some (.tup []))) fun v40 =>
 bnd (gua v40 true (oMove v13) (some (.tup []))) fun v41 =>
 bnd (gua v38 false (oPick v40 v41 (.bool false)) (some (.tup []))) fun v42 =>
 bnd (gua v38 false (oMove v42) (some (.tup []))) fun v43 =>
 bnd (gua v43 true (oMove t5) (some (.tup []))) fun v44 =>
 bnd (gua v38 false (oPick v43 v44 (.bool false)) (some (.tup []))) fun v45 =>
 bnd (oPick v38 (.bool true) v45) fun v46 =>
 cnd v46
 (bnd (oLoad true 4 h14 t13) fun v47 =>
 bcall (E n_ref01_with [v47, t14] h14) (fun v48 h49 =>
 beff (oStore base 4 h49 t13 v48) fun v50 h51 =>
 ref01_pick_j2 base t2 t3 t4 t5 t6 t7 t12 t13 t14 h51)
 (fun v48 h49 => pn false base v48 h49))
 (ref01_pick_j2 base t2 t3 t4 t5 t6 t7 t12 t13 t14 h14))
 (fun v13 h14 => pn false base v13 h14))
 (fun v10 h11 => sch (tlb (oLoad true 4 H t7) fun v53 => tlb (oMove t14) fun v54 => true) (pn false base v10 h11)))
 (bnd (oLoad true 4 H t13) fun v55 =>
 beff (oStore base 4 H t12 v55) fun v56 h57 =>
 bnd (oLoad true 4 h57 t12) fun v58 =>
 rt false base v58 h57) := (loop_eq (cAt [1, 1, 0, 1, 0, 0] ref01_pick_c) ((blockK 0 ((seqK (fun _ t => ref01_pick_C base (cAt [1, 1, 1] ref01_pick_c) (ref01_pick_e base) (trimA ref01_pick_ks (cAt [1, 1, 1] ref01_pick_c) t)) (ref01_pick_e base))))) _ H []).trans (by kernel_rfl)
def ref01_pick (base : Nat) (t0 t1 t2 t3 t4 t5 : V) (H : Heap) : Option (Out × Heap) := ref01_pick_C base ref01_pick_c (ref01_pick_e base) [(0, t0), (1, t1), (2, t2), (3, t3), (4, t4), (5, t5)] H []
theorem ref01_pick_eq (base : Nat) (t0 t1 t2 t3 t4 t5 : V) (H : Heap) : ref01_pick base t0 t1 t2 t3 t4 t5 H =
 beff (oVar H t0) fun v0 h1 =>
 beff (oVar h1 t1) fun v2 h3 =>
 beff (oVar h3 (.agg [(.int .u64 0), (.int .u64 0), (.int .u64 0), (.int .u64 0)])) fun v4 h5 =>
 beff (oVar h5 (.agg [(.int .u64 0), (.int .u64 0), (.int .u64 0), (.int .u64 0)])) fun v6 h7 =>
 ref01_pick_l1 base t2 t3 t4 t5 v0 v2 v4 v6 (.int .i64 0) h7 := by kernel_rfl
theorem ref01_pick_E (t0 t1 t2 t3 t4 t5 : V) (H : Heap) : E n_ref01_pick [t0, t1, t2, t3, t4, t5] H = ref01_pick H.length t0 t1 t2 t3 t4 t5 H := (EV_at Tryd.func66 (by kernel_rfl) (by kernel_rfl) (by kernel_rfl)).trans (by kernel_rfl)

def slices_insertionSortCmpFunc_api_Re_c : Code := bodyOf Tryd.f68
def slices_insertionSortCmpFunc_api_Re_ks : Ks := [(1, [0, 1, 2, 3, 8]), (4, [0, 1, 2, 3, 8, 9])]
def slices_insertionSortCmpFunc_api_Re_e (base : Nat) : KC (Out × Heap) := xEnd Tryd.prog D false base 53 Tryd.f68.results.toList
def slices_insertionSortCmpFunc_api_Re_C (base : Nat) (c : Code) (k : KC (Out × Heap)) (t : Ts) (H : Heap) (d : Ds) : Option (Out × Heap) := xC Tryd.prog base true slices_insertionSortCmpFunc_api_Re_ks E 53 c k t H d
def slices_insertionSortCmpFunc_api_Re_l1 (base : Nat) (t0 t1 t2 t3 t8 : V) (H : Heap) : Option (Out × Heap) :=
iterL (fun t H d again => slices_insertionSortCmpFunc_api_Re_C base (cAt [1, 0, 0] slices_insertionSortCmpFunc_api_Re_c) (loopK slices_insertionSortCmpFunc_api_Re_ks (cAt [1, 0, 0] slices_insertionSortCmpFunc_api_Re_c) again ((blockK 0 (slices_insertionSortCmpFunc_api_Re_e base)))) t H d) [(0, t0), (1, t1), (2, t2), (3, t3), (8, t8)] H []
def slices_insertionSortCmpFunc_api_Re_l2 (base : Nat) (t0 t1 t2 t3 t8 t9 : V) (H : Heap) : Option (Out × Heap) :=
iterL (fun t H d again => slices_insertionSortCmpFunc_api_Re_C base (cAt [1, 0, 0, 1, 0, 0, 1, 0, 0] slices_insertionSortCmpFunc_api_Re_c) (loopK slices_insertionSortCmpFunc_api_Re_ks (cAt [1, 0, 0, 1, 0, 0, 1, 0, 0] slices_insertionSortCmpFunc_api_Re_c) again ((blockK 2 ((blockK 1 ((seqK (fun _ t => slices_insertionSortCmpFunc_api_Re_C base (cAt [1, 0, 0, 1, 1] slices_insertionSortCmpFunc_api_Re_c) ((loopK slices_insertionSortCmpFunc_api_Re_ks (cAt [1, 0, 0] slices_insertionSortCmpFunc_api_Re_c) (iterL (fun t H d again => slices_insertionSortCmpFunc_api_Re_C base (cAt [1, 0, 0] slices_insertionSortCmpFunc_api_Re_c) (loopK slices_insertionSortCmpFunc_api_Re_ks (cAt [1, 0, 0] slices_insertionSortCmpFunc_api_Re_c) again ((blockK 0 (slices_insertionSortCmpFunc_api_Re_e base)))) t H d)) ((blockK 0 (slices_insertionSortCmpFunc_api_Re_e base))))) (trimA slices_insertionSortCmpFunc_api_Re_ks (cAt [1, 0, 0, 1, 1] slices_insertionSortCmpFunc_api_Re_c) t)) ((loopK slices_insertionSortCmpFunc_api_Re_ks (cAt [1, 0, 0] slices_insertionSortCmpFunc_api_Re_c) (iterL (fun t H d again => slices_insertionSortCmpFunc_api_Re_C base (cAt [1, 0, 0] slices_insertionSortCmpFunc_api_Re_c) (loopK slices_insertionSortCmpFunc_api_Re_ks (cAt [1, 0, 0] slices_insertionSortCmpFunc_api_Re_c) again ((blockK 0 (slices_insertionSortCmpFunc_api_Re_e base)))) t H d)) ((blockK 0 (slices_insertionSortCmpFunc_api_Re_e base)))))))))))) t H d) [(0, t0), (1, t1), (2, t2), (3, t3), (8, t8), (9, t9)] H []
theorem slices_insertionSortCmpFunc_api_Re_l2_eq (base : Nat) (t0 t1 t2 t3 t8 t9 : V) (H : Heap) : slices_insertionSortCmpFunc_api_Re_l2 base t0 t1 t2 t3 t8 t9 H =
 bnd (oBin .gtr 6 t9 t1) fun v2 =>
 bnd (gua v2 true (oMove t3) (some (.tup []))) fun v3 =>
 bnd (gua v2 true (oMove t0) (some (.tup []))) fun v4 =>
 bnd (gua v2 true (oMove t9) (some (.tup []))) fun v5 =>
 bnd (gua v2 true (oIndexPtr 6 v4 v5) (some (.tup []))) fun v6 =>
 bnd (gua v2 true (oLoad true 6 H v6) (some (.tup []))) fun v7 =>
 bnd (gua v2 true (oMove t0) (some (.tup []))) fun v8 =>
 bnd (gua v2 true (oMove t9) (some (.tup []))) fun v9 =>
 bnd (gua v2 true (oBin .sub 6 v9 (.int .i64 1)) (some (.tup []))) fun v10 =>
 bnd (gua v2 true (oIndexPtr 6 v8 v10) (some (.tup []))) fun v11 =>
 bnd (gua v2 true (oLoad true 6 H v11) (some (.tup []))) fun v12 =>
 bcall (gua v2 true (oDyn E v3 [v7, v12] H) (some (.ret (.tup []), H))) (fun v13 h14 =>
 bnd (gua v2 true (oBin .lss 6 v13 (.int .i64 0)) (some (.tup []))) fun v15 =>
 bnd (oPick v2 v15 (.bool false)) fun v16 =>
 cnd v16
 (bnd (oBin .sub 6 t9 (.int .i64 1)) fun v17 =>
 bnd (oBin .sub 6 t9 (.int .i64 1)) fun v18 =>
 bnd (oIndexPtr 6 t0 v18) fun v19 =>
 bnd (oLoad true 6 h14 v19) fun v20 =>
 bnd (oIndexPtr 6 t0 t9) fun v21 =>
 bnd (oLoad true 6 h14 v21) fun v22 =>
 bnd (oIndexPtr 6 t0 t9) fun v23 =>
 beff (oStore base 6 h14 v23 v20) fun v24 h25 =>
 bnd (oIndexPtr 6 t0 v17) fun v26 =>
 beff (oStore base 6 h25 v26 v22) fun v27 h28 =>
 bnd (oBin .sub 6 t9 (.int .i64 1)) fun v29 =>
 slices_insertionSortCmpFunc_api_Re_l2 base t0 t1 t2 t3 t8 v29 h28)
 (bnd (oBin .add 6 t8 (.int .i64 1)) fun v30 =>
 slices_insertionSortCmpFunc_api_Re_l1 base t0 t1 t2 t3 v30 h14))
 (fun v13 h14 => pn false base v13 h14) := (loop_eq (cAt [1, 0, 0, 1, 0, 0, 1, 0, 0] slices_insertionSortCmpFunc_api_Re_c) ((blockK 2 ((blockK 1 ((seqK (fun _ t => slices_insertionSortCmpFunc_api_Re_C base (cAt [1, 0, 0, 1, 1] slices_insertionSortCmpFunc_api_Re_c) ((loopK slices_insertionSortCmpFunc_api_Re_ks (cAt [1, 0, 0] slices_insertionSortCmpFunc_api_Re_c) (iterL (fun t H d again => slices_insertionSortCmpFunc_api_Re_C base (cAt [1, 0, 0] slices_insertionSortCmpFunc_api_Re_c) (loopK slices_insertionSortCmpFunc_api_Re_ks (cAt [1, 0, 0] slices_insertionSortCmpFunc_api_Re_c) again ((blockK 0 (slices_insertionSortCmpFunc_api_Re_e base)))) t H d)) ((blockK 0 (slices_insertionSortCmpFunc_api_Re_e base))))) (trimA slices_insertionSortCmpFunc_api_Re_ks (cAt [1, 0, 0, 1, 1] slices_insertionSortCmpFunc_api_Re_c) t)) ((loopK slices_insertionSortCmpFunc_api_Re_ks (cAt [1, 0, 0] slices_insertionSortCmpFunc_api_Re_c) (iterL (fun t H d again => slices_insertionSortCmpFunc_api_Re_C base (cAt [1, 0, 0] slices_insertionSortCmpFunc_api_Re_c) (loopK slices_insertionSortCmpFunc_api_Re_ks (cAt [1, 0, 0] slices_insertionSortCmpFunc_api_Re_c) again ((blockK 0 (slices_insertionSortCmpFunc_api_Re_e base)))) t H d)) ((blockK 0 (slices_insertionSortCmpFunc_api_Re_e base))))))))))) _ H []).trans (by kernel_rfl)
theorem slices_insertionSortCmpFunc_api_Re_l1_eq (base : Nat) (t0 t1 t2 t3 t8 : V) (H : Heap) : slices_insertionSortCmpFunc_api_Re_l1 base t0 t1 t2 t3 t8 H =
 bnd (oBin .lss 6 t8 t2) fun v1 =>
 cnd v1
 (slices_insertionSortCmpFunc_api_Re_l2 base t0 t1 t2 t3 t8 t8 H)
 (rt false base (.tup []) H) := (loop_eq (cAt [1, 0, 0] slices_insertionSortCmpFunc_api_Re_c) ((blockK 0 (slices_insertionSortCmpFunc_api_Re_e base))) _ H []).trans (by kernel_rfl)
def slices_insertionSortCmpFunc_api_Re (base : Nat) (t0 t1 t2 t3 : V) (H : Heap) : Option (Out × Heap) := slices_insertionSortCmpFunc_api_Re_C base slices_insertionSortCmpFunc_api_Re_c (slices_insertionSortCmpFunc_api_Re_e base) [(0, t0), (1, t1), (2, t2), (3, t3)] H []
theorem slices_insertionSortCmpFunc_api_Re_eq (base : Nat) (t0 t1 t2 t3 : V) (H : Heap) : slices_insertionSortCmpFunc_api_Re base t0 t1 t2 t3 H =
 bnd (oBin .add 6 t1 (.int .i64 1)) fun v0 =>
 slices_insertionSortCmpFunc_api_Re_l1 base t0 t1 t2 t3 v0 H := by kernel_rfl
theorem slices_insertionSortCmpFunc_api_Re_E (t0 t1 t2 t3 : V) (H : Heap) : E n_slices_insertionSortCmpFunc_api_Re [t0, t1, t2, t3] H = slices_insertionSortCmpFunc_api_Re H.length t0 t1 t2 t3 H := (EV_at Tryd.func68 (by kernel_rfl) (by kernel_rfl) (by kernel_rfl)).trans (by kernel_rfl)

def slices_symMergeCmpFunc_api_Re_c : Code := bodyOf Tryd.f69
def slices_symMergeCmpFunc_api_Re_ks : Ks := [(3, [0, 1, 4, 10, 11]), (9, [0, 10, 13]), (15, [0, 2, 4, 14, 15]), (21, [0, 14, 17]), (32, [0, 1, 2, 3, 4, 18, 19, 20, 21]), (33, [0, 1, 2, 3, 4, 18, 19, 20, 21, 22]), (41, [0, 1, 3, 4, 18, 20, 24]), (43, [0, 3, 4, 18, 24])]
def slices_symMergeCmpFunc_api_Re_e (base : Nat) : KC (Out × Heap) := xEnd Tryd.prog D false base 220 Tryd.f69.results.toList
def slices_symMergeCmpFunc_api_Re_C (base : Nat) (c : Code) (k : KC (Out × Heap)) (t : Ts) (H : Heap) (d : Ds) : Option (Out × Heap) := xC Tryd.prog base true slices_symMergeCmpFunc_api_Re_ks E 220 c k t H d
def slices_symMergeCmpFunc_api_Re_l1 (base : Nat) (t0 t1 t4 t10 t11 : V) (H : Heap) : Option (Out × Heap) :=
iterL (fun t H d again => slices_symMergeCmpFunc_api_Re_C base (cAt [0, 1, 0, 1, 1, 0, 0, 0] slices_symMergeCmpFunc_api_Re_c) (loopK slices_symMergeCmpFunc_api_Re_ks (cAt [0, 1, 0, 1, 1, 0, 0, 0] slices_symMergeCmpFunc_api_Re_c) again ((blockK 0 ((seqK (fun _ t => slices_symMergeCmpFunc_api_Re_C base (cAt [0, 1, 0, 1, 1, 1] slices_symMergeCmpFunc_api_Re_c) ((seqK (fun _ t => slices_symMergeCmpFunc_api_Re_C base (cAt [1] slices_symMergeCmpFunc_api_Re_c) (slices_symMergeCmpFunc_api_Re_e base) (trimA slices_symMergeCmpFunc_api_Re_ks (cAt [1] slices_symMergeCmpFunc_api_Re_c) t)) (slices_symMergeCmpFunc_api_Re_e base))) (trimA slices_symMergeCmpFunc_api_Re_ks (cAt [0, 1, 0, 1, 1, 1] slices_symMergeCmpFunc_api_Re_c) t)) ((seqK (fun _ t => slices_symMergeCmpFunc_api_Re_C base (cAt [1] slices_symMergeCmpFunc_api_Re_c) (slices_symMergeCmpFunc_api_Re_e base) (trimA slices_symMergeCmpFunc_api_Re_ks (cAt [1] slices_symMergeCmpFunc_api_Re_c) t)) (slices_symMergeCmpFunc_api_Re_e base)))))))) t H d) [(0, t0), (1, t1), (4, t4), (10, t10), (11, t11)] H []
def slices_symMergeCmpFunc_api_Re_l2 (base : Nat) (t0 t10 t13 : V) (H : Heap) : Option (Out × Heap) :=
iterL (fun t H d again => slices_symMergeCmpFunc_api_Re_C base (cAt [0, 1, 0, 1, 1, 1, 0, 1, 0, 0] slices_symMergeCmpFunc_api_Re_c) (loopK slices_symMergeCmpFunc_api_Re_ks (cAt [0, 1, 0, 1, 1, 1, 0, 1, 0, 0] slices_symMergeCmpFunc_api_Re_c) again ((blockK 2 ((seqK (fun _ t => slices_symMergeCmpFunc_api_Re_C base (cAt [0, 1, 0, 1, 1, 1, 1] slices_symMergeCmpFunc_api_Re_c) ((seqK (fun _ t => slices_symMergeCmpFunc_api_Re_C base (cAt [1] slices_symMergeCmpFunc_api_Re_c) (slices_symMergeCmpFunc_api_Re_e base) (trimA slices_symMergeCmpFunc_api_Re_ks (cAt [1] slices_symMergeCmpFunc_api_Re_c) t)) (slices_symMergeCmpFunc_api_Re_e base))) (trimA slices_symMergeCmpFunc_api_Re_ks (cAt [0, 1, 0, 1, 1, 1, 1] slices_symMergeCmpFunc_api_Re_c) t)) ((seqK (fun _ t => slices_symMergeCmpFunc_api_Re_C base (cAt [1] slices_symMergeCmpFunc_api_Re_c) (slices_symMergeCmpFunc_api_Re_e base) (trimA slices_symMergeCmpFunc_api_Re_ks (cAt [1] slices_symMergeCmpFunc_api_Re_c) t)) (slices_symMergeCmpFunc_api_Re_e base)))))))) t H d) [(0, t0), (10, t10), (13, t13)] H []
theorem slices_symMergeCmpFunc_api_Re_l2_eq (base : Nat) (t0 t10 t13 : V) (H : Heap) : slices_symMergeCmpFunc_api_Re_l2 base t0 t10 t13 H =
 bnd (oBin .sub 6 t10 (.int .i64 1)) fun v15 =>
 bnd (oBin .lss 6 t13 v15) fun v16 =>
 cnd v16
 (bnd (oBin .add 6 t13 (.int .i64 1)) fun v17 =>
 bnd (oBin .add 6 t13 (.int .i64 1)) fun v18 =>
 bnd (oIndexPtr 6 t0 v18) fun v19 =>
 bnd (oLoad true 6 H v19) fun v20 =>
 bnd (oIndexPtr 6 t0 t13) fun v21 =>
 bnd (oLoad true 6 H v21) fun v22 =>
 bnd (oIndexPtr 6 t0 t13) fun v23 =>
 beff (oStore base 6 H v23 v20) fun v24 h25 =>
 bnd (oIndexPtr 6 t0 v17) fun v26 =>
 beff (oStore base 6 h25 v26 v22) fun v27 h28 =>
 bnd (oBin .add 6 t13 (.int .i64 1)) fun v29 =>
 slices_symMergeCmpFunc_api_Re_l2 base t0 t10 v29 h28)
 (rt false base (.tup []) H) := (loop_eq (cAt [0, 1, 0, 1, 1, 1, 0, 1, 0, 0] slices_symMergeCmpFunc_api_Re_c) ((blockK 2 ((seqK (fun _ t => slices_symMergeCmpFunc_api_Re_C base (cAt [0, 1, 0, 1, 1, 1, 1] slices_symMergeCmpFunc_api_Re_c) ((seqK (fun _ t => slices_symMergeCmpFunc_api_Re_C base (cAt [1] slices_symMergeCmpFunc_api_Re_c) (slices_symMergeCmpFunc_api_Re_e base) (trimA slices_symMergeCmpFunc_api_Re_ks (cAt [1] slices_symMergeCmpFunc_api_Re_c) t)) (slices_symMergeCmpFunc_api_Re_e base))) (trimA slices_symMergeCmpFunc_api_Re_ks (cAt [0, 1, 0, 1, 1, 1, 1] slices_symMergeCmpFunc_api_Re_c) t)) ((seqK (fun _ t => slices_symMergeCmpFunc_api_Re_C base (cAt [1] slices_symMergeCmpFunc_api_Re_c) (slices_symMergeCmpFunc_api_Re_e base) (trimA slices_symMergeCmpFunc_api_Re_ks (cAt [1] slices_symMergeCmpFunc_api_Re_c) t)) (slices_symMergeCmpFunc_api_Re_e base))))))) _ H []).trans (by kernel_rfl)
theorem slices_symMergeCmpFunc_api_Re_l1_eq (base : Nat) (t0 t1 t4 t10 t11 : V) (H : Heap) : slices_symMergeCmpFunc_api_Re_l1 base t0 t1 t4 t10 t11 H =
 bnd (oBin .lss 6 t10 t11) fun v2 =>
 cnd v2
 (bnd (oBin .add 6 t10 t11) fun v3 =>
 bnd (oIntTo .u64 v3) fun v4 =>
 bnd (oBin .shr 6 v4 (.int .u64 1)) fun v5 =>
 bnd (oIntTo .i64 v5) fun v6 =>
 bnd (oIndexPtr 6 t0 v6) fun v7 =>
 bnd (oLoad true 6 H v7) fun v8 =>
 bnd (oIndexPtr 6 t0 t1) fun v9 =>
 bnd (oLoad true 6 H v9) fun v10 =>
 bcall (oDyn E t4 [v8, v10] H) (fun v11 h12 =>
 bnd (oBin .lss 6 v11 (.int .i64 0)) fun v13 =>
 cnd v13
 (bnd (oBin .add 6 v6 (.int .i64 1)) fun v14 =>
 slices_symMergeCmpFunc_api_Re_l1 base t0 t1 t4 v14 t11 h12)
 (slices_symMergeCmpFunc_api_Re_l1 base t0 t1 t4 t10 v6 h12))
 (fun v11 h12 => pn false base v11 h12))
 (slices_symMergeCmpFunc_api_Re_l2 base t0 t10 t1 H) := (loop_eq (cAt [0, 1, 0, 1, 1, 0, 0, 0] slices_symMergeCmpFunc_api_Re_c) ((blockK 0 ((seqK (fun _ t => slices_symMergeCmpFunc_api_Re_C base (cAt [0, 1, 0, 1, 1, 1] slices_symMergeCmpFunc_api_Re_c) ((seqK (fun _ t => slices_symMergeCmpFunc_api_Re_C base (cAt [1] slices_symMergeCmpFunc_api_Re_c) (slices_symMergeCmpFunc_api_Re_e base) (trimA slices_symMergeCmpFunc_api_Re_ks (cAt [1] slices_symMergeCmpFunc_api_Re_c) t)) (slices_symMergeCmpFunc_api_Re_e base))) (trimA slices_symMergeCmpFunc_api_Re_ks (cAt [0, 1, 0, 1, 1, 1] slices_symMergeCmpFunc_api_Re_c) t)) ((seqK (fun _ t => slices_symMergeCmpFunc_api_Re_C base (cAt [1] slices_symMergeCmpFunc_api_Re_c) (slices_symMergeCmpFunc_api_Re_e base) (trimA slices_symMergeCmpFunc_api_Re_ks (cAt [1] slices_symMergeCmpFunc_api_Re_c) t)) (slices_symMergeCmpFunc_api_Re_e base))))))) _ H []).trans (by kernel_rfl)
def slices_symMergeCmpFunc_api_Re_l3 (base : Nat) (t0 t2 t4 t14 t15 : V) (H : Heap) : Option (Out × Heap) :=
iterL (fun t H d again => slices_symMergeCmpFunc_api_Re_C base (cAt [1, 0, 1, 0, 1, 1, 0, 0, 0] slices_symMergeCmpFunc_api_Re_c) (loopK slices_symMergeCmpFunc_api_Re_ks (cAt [1, 0, 1, 0, 1, 1, 0, 0, 0] slices_symMergeCmpFunc_api_Re_c) again ((blockK 4 ((seqK (fun _ t => slices_symMergeCmpFunc_api_Re_C base (cAt [1, 0, 1, 0, 1, 1, 1] slices_symMergeCmpFunc_api_Re_c) ((seqK (fun _ t => slices_symMergeCmpFunc_api_Re_C base (cAt [1, 1] slices_symMergeCmpFunc_api_Re_c) (slices_symMergeCmpFunc_api_Re_e base) (trimA slices_symMergeCmpFunc_api_Re_ks (cAt [1, 1] slices_symMergeCmpFunc_api_Re_c) t)) (slices_symMergeCmpFunc_api_Re_e base))) (trimA slices_symMergeCmpFunc_api_Re_ks (cAt [1, 0, 1, 0, 1, 1, 1] slices_symMergeCmpFunc_api_Re_c) t)) ((seqK (fun _ t => slices_symMergeCmpFunc_api_Re_C base (cAt [1, 1] slices_symMergeCmpFunc_api_Re_c) (slices_symMergeCmpFunc_api_Re_e base) (trimA slices_symMergeCmpFunc_api_Re_ks (cAt [1, 1] slices_symMergeCmpFunc_api_Re_c) t)) (slices_symMergeCmpFunc_api_Re_e base)))))))) t H d) [(0, t0), (2, t2), (4, t4), (14, t14), (15, t15)] H []
def slices_symMergeCmpFunc_api_Re_l4 (base : Nat) (t0 t14 t17 : V) (H : Heap) : Option (Out × Heap) :=
iterL (fun t H d again => slices_symMergeCmpFunc_api_Re_C base (cAt [1, 0, 1, 0, 1, 1, 1, 0, 1, 0, 0] slices_symMergeCmpFunc_api_Re_c) (loopK slices_symMergeCmpFunc_api_Re_ks (cAt [1, 0, 1, 0, 1, 1, 1, 0, 1, 0, 0] slices_symMergeCmpFunc_api_Re_c) again ((blockK 6 ((seqK (fun _ t => slices_symMergeCmpFunc_api_Re_C base (cAt [1, 0, 1, 0, 1, 1, 1, 1] slices_symMergeCmpFunc_api_Re_c) ((seqK (fun _ t => slices_symMergeCmpFunc_api_Re_C base (cAt [1, 1] slices_symMergeCmpFunc_api_Re_c) (slices_symMergeCmpFunc_api_Re_e base) (trimA slices_symMergeCmpFunc_api_Re_ks (cAt [1, 1] slices_symMergeCmpFunc_api_Re_c) t)) (slices_symMergeCmpFunc_api_Re_e base))) (trimA slices_symMergeCmpFunc_api_Re_ks (cAt [1, 0, 1, 0, 1, 1, 1, 1] slices_symMergeCmpFunc_api_Re_c) t)) ((seqK (fun _ t => slices_symMergeCmpFunc_api_Re_C base (cAt [1, 1] slices_symMergeCmpFunc_api_Re_c) (slices_symMergeCmpFunc_api_Re_e base) (trimA slices_symMergeCmpFunc_api_Re_ks (cAt [1, 1] slices_symMergeCmpFunc_api_Re_c) t)) (slices_symMergeCmpFunc_api_Re_e base)))))))) t H d) [(0, t0), (14, t14), (17, t17)] H []
theorem slices_symMergeCmpFunc_api_Re_l4_eq (base : Nat) (t0 t14 t17 : V) (H : Heap) : slices_symMergeCmpFunc_api_Re_l4 base t0 t14 t17 H =
 bnd (oBin .gtr 6 t17 t14) fun v46 =>
 cnd v46
 (bnd (oBin .sub 6 t17 (.int .i64 1)) fun v47 =>
 bnd (oBin .sub 6 t17 (.int .i64 1)) fun v48 =>
 bnd (oIndexPtr 6 t0 v48) fun v49 =>
 bnd (oLoad true 6 H v49) fun v50 =>
 bnd (oIndexPtr 6 t0 t17) fun v51 =>
 bnd (oLoad true 6 H v51) fun v52 =>
 bnd (oIndexPtr 6 t0 t17) fun v53 =>
 beff (oStore base 6 H v53 v50) fun v54 h55 =>
 bnd (oIndexPtr 6 t0 v47) fun v56 =>
 beff (oStore base 6 h55 v56 v52) fun v57 h58 =>
 bnd (oBin .sub 6 t17 (.int .i64 1)) fun v59 =>
 slices_symMergeCmpFunc_api_Re_l4 base t0 t14 v59 h58)
 (rt false base (.tup []) H) := (loop_eq (cAt [1, 0, 1, 0, 1, 1, 1, 0, 1, 0, 0] slices_symMergeCmpFunc_api_Re_c) ((blockK 6 ((seqK (fun _ t => slices_symMergeCmpFunc_api_Re_C base (cAt [1, 0, 1, 0, 1, 1, 1, 1] slices_symMergeCmpFunc_api_Re_c) ((seqK (fun _ t => slices_symMergeCmpFunc_api_Re_C base (cAt [1, 1] slices_symMergeCmpFunc_api_Re_c) (slices_symMergeCmpFunc_api_Re_e base) (trimA slices_symMergeCmpFunc_api_Re_ks (cAt [1, 1] slices_symMergeCmpFunc_api_Re_c) t)) (slices_symMergeCmpFunc_api_Re_e base))) (trimA slices_symMergeCmpFunc_api_Re_ks (cAt [1, 0, 1, 0, 1, 1, 1, 1] slices_symMergeCmpFunc_api_Re_c) t)) ((seqK (fun _ t => slices_symMergeCmpFunc_api_Re_C base (cAt [1, 1] slices_symMergeCmpFunc_api_Re_c) (slices_symMergeCmpFunc_api_Re_e base) (trimA slices_symMergeCmpFunc_api_Re_ks (cAt [1, 1] slices_symMergeCmpFunc_api_Re_c) t)) (slices_symMergeCmpFunc_api_Re_e base))))))) _ H []).trans (by kernel_rfl)
theorem slices_symMergeCmpFunc_api_Re_l3_eq (base : Nat) (t0 t2 t4 t14 t15 : V) (H : Heap) : slices_symMergeCmpFunc_api_Re_l3 base t0 t2 t4 t14 t15 H =
 bnd (oBin .lss 6 t14 t15) fun v32 =>
 cnd v32
 (bnd (oBin .add 6 t14 t15) fun v33 =>
 bnd (oIntTo .u64 v33) fun v34 =>
 bnd (oBin .shr 6 v34 (.int .u64 1)) fun v35 =>
 bnd (oIntTo .i64 v35) fun v36 =>
 bnd (oIndexPtr 6 t0 t2) fun v37 =>
 bnd (oLoad true 6 H v37) fun v38 =>
 bnd (oIndexPtr 6 t0 v36) fun v39 =>
 bnd (oLoad true 6 H v39) fun v40 =>
 bcall (oDyn E t4 [v38, v40] H) (fun v41 h42 =>
 bnd (oBin .lss 6 v41 (.int .i64 0)) fun v43 =>
 bnd (oUn .not v43) fun v44 =>
 cnd v44
 (bnd (oBin .add 6 v36 (.int .i64 1)) fun v45 =>
 slices_symMergeCmpFunc_api_Re_l3 base t0 t2 t4 v45 t15 h42)
 (slices_symMergeCmpFunc_api_Re_l3 base t0 t2 t4 t14 v36 h42))
 (fun v41 h42 => pn false base v41 h42))
 (slices_symMergeCmpFunc_api_Re_l4 base t0 t14 t2 H) := (loop_eq (cAt [1, 0, 1, 0, 1, 1, 0, 0, 0] slices_symMergeCmpFunc_api_Re_c) ((blockK 4 ((seqK (fun _ t => slices_symMergeCmpFunc_api_Re_C base (cAt [1, 0, 1, 0, 1, 1, 1] slices_symMergeCmpFunc_api_Re_c) ((seqK (fun _ t => slices_symMergeCmpFunc_api_Re_C base (cAt [1, 1] slices_symMergeCmpFunc_api_Re_c) (slices_symMergeCmpFunc_api_Re_e base) (trimA slices_symMergeCmpFunc_api_Re_ks (cAt [1, 1] slices_symMergeCmpFunc_api_Re_c) t)) (slices_symMergeCmpFunc_api_Re_e base))) (trimA slices_symMergeCmpFunc_api_Re_ks (cAt [1, 0, 1, 0, 1, 1, 1] slices_symMergeCmpFunc_api_Re_c) t)) ((seqK (fun _ t => slices_symMergeCmpFunc_api_Re_C base (cAt [1, 1] slices_symMergeCmpFunc_api_Re_c) (slices_symMergeCmpFunc_api_Re_e base) (trimA slices_symMergeCmpFunc_api_Re_ks (cAt [1, 1] slices_symMergeCmpFunc_api_Re_c) t)) (slices_symMergeCmpFunc_api_Re_e base))))))) _ H []).trans (by kernel_rfl)
def slices_symMergeCmpFunc_api_Re_l6 (base : Nat) (t0 t1 t2 t3 t4 t18 t19 t20 t21 t22 : V) (H : Heap) : Option (Out × Heap) :=
iterL (fun t H d again => slices_symMergeCmpFunc_api_Re_C base (cAt [1, 1, 1, 1, 1, 1, 1, 0, 0, 0] slices_symMergeCmpFunc_api_Re_c) (loopK slices_symMergeCmpFunc_api_Re_ks (cAt [1, 1, 1, 1, 1, 1, 1, 0, 0, 0] slices_symMergeCmpFunc_api_Re_c) again ((blockK 8 ((seqK (fun _ t => slices_symMergeCmpFunc_api_Re_C base (cAt [1, 1, 1, 1, 1, 1, 1, 1] slices_symMergeCmpFunc_api_Re_c) (slices_symMergeCmpFunc_api_Re_e base) (trimA slices_symMergeCmpFunc_api_Re_ks (cAt [1, 1, 1, 1, 1, 1, 1, 1] slices_symMergeCmpFunc_api_Re_c) t)) (slices_symMergeCmpFunc_api_Re_e base)))))) t H d) [(0, t0), (1, t1), (2, t2), (3, t3), (4, t4), (18, t18), (19, t19), (20, t20), (21, t21), (22, t22)] H []
def slices_symMergeCmpFunc_api_Re_j8 (base : Nat) (t0 t3 t4 t18 t24 : V) (H : Heap) : Option (Out × Heap) :=
slices_symMergeCmpFunc_api_Re_C base (cAt [1, 1, 1, 1, 1, 1, 1, 1, 1, 1, 1] slices_symMergeCmpFunc_api_Re_c) (slices_symMergeCmpFunc_api_Re_e base) [(0, t0), (3, t3), (4, t4), (18, t18), (24, t24)] H []
theorem slices_symMergeCmpFunc_api_Re_j8_eq (base : Nat) (t0 t3 t4 t18 t24 : V) (H : Heap) : slices_symMergeCmpFunc_api_Re_j8 base t0 t3 t4 t18 t24 H =
 bnd (oBin .lss 6 t18 t24) fun v98 =>
 bnd (gua v98 true (oMove t24) (some (.tup []))) fun v99 =>
 bnd (gua v98 true (oMove t3) (some (.tup []))) fun v100 =>
 bnd (gua v98 true (oBin .lss 6 v99 v100) (some (.tup []))) fun v101 =>
 bnd (oPick v98 v101 (.bool false)) fun v102 =>
 cnd v102
 (bcall (E n_slices_symMergeCmpFunc_api_Re [t0, t18, t24, t3, t4] H) (fun v103 h104 =>
 rt false base (.tup []) h104)
 (fun v103 h104 => pn false base v103 h104))
 (rt false base (.tup []) H) := by kernel_rfl
def slices_symMergeCmpFunc_api_Re_j7 (base : Nat) (t0 t1 t3 t4 t18 t20 t24 : V) (H : Heap) : Option (Out × Heap) :=
slices_symMergeCmpFunc_api_Re_C base (cAt [1, 1, 1, 1, 1, 1, 1, 1, 1, 1] slices_symMergeCmpFunc_api_Re_c) (slices_symMergeCmpFunc_api_Re_e base) [(0, t0), (1, t1), (3, t3), (4, t4), (18, t18), (20, t20), (24, t24)] H []
theorem slices_symMergeCmpFunc_api_Re_j7_eq (base : Nat) (t0 t1 t3 t4 t18 t20 t24 : V) (H : Heap) : slices_symMergeCmpFunc_api_Re_j7 base t0 t1 t3 t4 t18 t20 t24 H =
 bnd (oBin .lss 6 t1 t20) fun v91 =>
 bnd (gua v91 true (oMove t20) (some (.tup []))) fun v92 =>
 bnd (gua v91 true (oMove t18) (some (.tup []))) fun v93 =>
 bnd (gua v91 true (oBin .lss 6 v92 v93) (some (.tup []))) fun v94 =>
 bnd (oPick v91 v94 (.bool false)) fun v95 =>
 cnd v95
 (bcall (E n_slices_symMergeCmpFunc_api_Re [t0, t1, t20, t18, t4] H) (fun v96 h97 =>
 slices_symMergeCmpFunc_api_Re_j8 base t0 t3 t4 t18 t24 h97)
 (fun v96 h97 => pn false base v96 h97))
 (slices_symMergeCmpFunc_api_Re_j8 base t0 t3 t4 t18 t24 H) := by kernel_rfl
theorem slices_symMergeCmpFunc_api_Re_l6_eq (base : Nat) (t0 t1 t2 t3 t4 t18 t19 t20 t21 t22 : V) (H : Heap) : slices_symMergeCmpFunc_api_Re_l6 base t0 t1 t2 t3 t4 t18 t19 t20 t21 t22 H =
 bnd (oBin .lss 6 t20 t21) fun v68 =>
 cnd v68
 (bnd (oBin .add 6 t20 t21) fun v69 =>
 bnd (oIntTo .u64 v69) fun v70 =>
 bnd (oBin .shr 6 v70 (.int .u64 1)) fun v71 =>
 bnd (oIntTo .i64 v71) fun v72 =>
 bnd (oBin .sub 6 t22 v72) fun v73 =>
 bnd (oIndexPtr 6 t0 v73) fun v74 =>
 bnd (oLoad true 6 H v74) fun v75 =>
 bnd (oIndexPtr 6 t0 v72) fun v76 =>
 bnd (oLoad true 6 H v76) fun v77 =>
 bcall (oDyn E t4 [v75, v77] H) (fun v78 h79 =>
 bnd (oBin .lss 6 v78 (.int .i64 0)) fun v80 =>
 bnd (oUn .not v80) fun v81 =>
 cnd v81
 (bnd (oBin .add 6 v72 (.int .i64 1)) fun v82 =>
 slices_symMergeCmpFunc_api_Re_l6 base t0 t1 t2 t3 t4 t18 t19 v82 t21 t22 h79)
 (slices_symMergeCmpFunc_api_Re_l6 base t0 t1 t2 t3 t4 t18 t19 t20 v72 t22 h79))
 (fun v78 h79 => pn false base v78 h79))
 (bnd (oBin .sub 6 t19 t20) fun v83 =>
 bnd (oBin .lss 6 t20 t2) fun v84 =>
 bnd (gua v84 true (oMove t2) (some (.tup []))) fun v85 =>
 bnd (gua v84 true (oMove v83) (some (.tup []))) fun v86 =>
 bnd (gua v84 true (oBin .lss 6 v85 v86) (some (.tup []))) fun v87 =>
 bnd (oPick v84 v87 (.bool false)) fun v88 =>
 cnd v88
 (bcall (E n_slices_rotateCmpFunc_api_Re [t0, t20, t2, v83, t4] H) (fun v89 h90 =>
 slices_symMergeCmpFunc_api_Re_j7 base t0 t1 t3 t4 t18 t20 v83 h90)
 (fun v89 h90 => pn false base v89 h90))
 (slices_symMergeCmpFunc_api_Re_j7 base t0 t1 t3 t4 t18 t20 v83 H)) := (loop_eq (cAt [1, 1, 1, 1, 1, 1, 1, 0, 0, 0] slices_symMergeCmpFunc_api_Re_c) ((blockK 8 ((seqK (fun _ t => slices_symMergeCmpFunc_api_Re_C base (cAt [1, 1, 1, 1, 1, 1, 1, 1] slices_symMergeCmpFunc_api_Re_c) (slices_symMergeCmpFunc_api_Re_e base) (trimA slices_symMergeCmpFunc_api_Re_ks (cAt [1, 1, 1, 1, 1, 1, 1, 1] slices_symMergeCmpFunc_api_Re_c) t)) (slices_symMergeCmpFunc_api_Re_e base))))) _ H []).trans (by kernel_rfl)
def slices_symMergeCmpFunc_api_Re_j5 (base : Nat) (t0 t1 t2 t3 t4 t18 t19 t20 t21 : V) (H : Heap) : Option (Out × Heap) :=
slices_symMergeCmpFunc_api_Re_C base (cAt [1, 1, 1, 1, 1, 1] slices_symMergeCmpFunc_api_Re_c) (slices_symMergeCmpFunc_api_Re_e base) [(0, t0), (1, t1), (2, t2), (3, t3), (4, t4), (18, t18), (19, t19), (20, t20), (21, t21)] H []
theorem slices_symMergeCmpFunc_api_Re_j5_eq (base : Nat) (t0 t1 t2 t3 t4 t18 t19 t20 t21 : V) (H : Heap) : slices_symMergeCmpFunc_api_Re_j5 base t0 t1 t2 t3 t4 t18 t19 t20 t21 H =
 bnd (oBin .sub 6 t19 (.int .i64 1)) fun v67 =>
 slices_symMergeCmpFunc_api_Re_l6 base t0 t1 t2 t3 t4 t18 t19 t20 t21 v67 H := by kernel_rfl
def slices_symMergeCmpFunc_api_Re (base : Nat) (t0 t1 t2 t3 t4 : V) (H : Heap) : Option (Out × Heap) := slices_symMergeCmpFunc_api_Re_C base slices_symMergeCmpFunc_api_Re_c (slices_symMergeCmpFunc_api_Re_e base) [(0, t0), (1, t1), (2, t2), (3, t3), (4, t4)] H []
theorem slices_symMergeCmpFunc_api_Re_eq (base : Nat) (t0 t1 t2 t3 t4 : V) (H : Heap) : slices_symMergeCmpFunc_api_Re base t0 t1 t2 t3 t4 H =
 bnd (oBin .sub 6 t2 t1) fun v0 =>
 bnd (oBin .eql 6 v0 (.int .i64 1)) fun v1 =>
 cnd v1
 (slices_symMergeCmpFunc_api_Re_l1 base t0 t1 t4 t2 t3 H)
 (bnd (oBin .sub 6 t3 t2) fun v30 =>
 bnd (oBin .eql 6 v30 (.int .i64 1)) fun v31 =>
 cnd v31
 (slices_symMergeCmpFunc_api_Re_l3 base t0 t2 t4 t1 t2 H)
 (bnd (oBin .add 6 t1 t3) fun v60 =>
 bnd (oIntTo .u64 v60) fun v61 =>
 bnd (oBin .shr 6 v61 (.int .u64 1)) fun v62 =>
 bnd (oIntTo .i64 v62) fun v63 =>
 bnd (oBin .add 6 v63 t2) fun v64 =>
 bnd (oBin .gtr 6 t2 v63) fun v65 =>
 cnd v65
 (bnd (oBin .sub 6 v64 t3) fun v66 =>
 slices_symMergeCmpFunc_api_Re_j5 base t0 t1 t2 t3 t4 v63 v64 v66 v63 H)
 (slices_symMergeCmpFunc_api_Re_j5 base t0 t1 t2 t3 t4 v63 v64 t1 t2 H))) := by kernel_rfl
theorem slices_symMergeCmpFunc_api_Re_E (t0 t1 t2 t3 t4 : V) (H : Heap) : E n_slices_symMergeCmpFunc_api_Re [t0, t1, t2, t3, t4] H = slices_symMergeCmpFunc_api_Re H.length t0 t1 t2 t3 t4 H := (EV_at Tryd.func69 (by kernel_rfl) (by kernel_rfl) (by kernel_rfl)).trans (by kernel_rfl)

def slices_rotateCmpFunc_api_Re_c : Code := bodyOf Tryd.f76
def slices_rotateCmpFunc_api_Re_ks : Ks := [(2, [0, 2, 4, 10, 11])]
def slices_rotateCmpFunc_api_Re_e (base : Nat) : KC (Out × Heap) := xEnd Tryd.prog D false base 58 Tryd.f76.results.toList
def slices_rotateCmpFunc_api_Re_C (base : Nat) (c : Code) (k : KC (Out × Heap)) (t : Ts) (H : Heap) (d : Ds) : Option (Out × Heap) := xC Tryd.prog base true slices_rotateCmpFunc_api_Re_ks E 58 c k t H d
def slices_rotateCmpFunc_api_Re_l1 (base : Nat) (t0 t2 t4 t10 t11 : V) (H : Heap) : Option (Out × Heap) :=
iterL (fun t H d again => slices_rotateCmpFunc_api_Re_C base (cAt [1, 1, 0, 0, 0] slices_rotateCmpFunc_api_Re_c) (loopK slices_rotateCmpFunc_api_Re_ks (cAt [1, 1, 0, 0, 0] slices_rotateCmpFunc_api_Re_c) again ((blockK 0 ((seqK (fun _ t => slices_rotateCmpFunc_api_Re_C base (cAt [1, 1, 1] slices_rotateCmpFunc_api_Re_c) (slices_rotateCmpFunc_api_Re_e base) (trimA slices_rotateCmpFunc_api_Re_ks (cAt [1, 1, 1] slices_rotateCmpFunc_api_Re_c) t)) (slices_rotateCmpFunc_api_Re_e base)))))) t H d) [(0, t0), (2, t2), (4, t4), (10, t10), (11, t11)] H []
theorem slices_rotateCmpFunc_api_Re_l1_eq (base : Nat) (t0 t2 t4 t10 t11 : V) (H : Heap) : slices_rotateCmpFunc_api_Re_l1 base t0 t2 t4 t10 t11 H =
 bnd (oBin .neq 6 t10 t11) fun v2 =>
 cnd v2
 (bnd (oBin .gtr 6 t10 t11) fun v3 =>
 cnd v3
 (bnd (oBin .sub 6 t2 t10) fun v4 =>
 bcall (E n_slices_swapRangeCmpFunc_api_Re [t0, v4, t2, t11, t4] H) (fun v5 h6 =>
 bnd (oBin .sub 6 t10 t11) fun v7 =>
 slices_rotateCmpFunc_api_Re_l1 base t0 t2 t4 v7 t11 h6)
 (fun v5 h6 => pn false base v5 h6))
 (bnd (oBin .sub 6 t2 t10) fun v8 =>
 bnd (oBin .add 6 t2 t11) fun v9 =>
 bnd (oBin .sub 6 v9 t10) fun v10 =>
 bcall (E n_slices_swapRangeCmpFunc_api_Re [t0, v8, v10, t10, t4] H) (fun v11 h12 =>
 bnd (oBin .sub 6 t11 t10) fun v13 =>
 slices_rotateCmpFunc_api_Re_l1 base t0 t2 t4 t10 v13 h12)
 (fun v11 h12 => pn false base v11 h12)))
 (bnd (oBin .sub 6 t2 t10) fun v14 =>
 bcall (E n_slices_swapRangeCmpFunc_api_Re [t0, v14, t2, t10, t4] H) (fun v15 h16 =>
 rt false base (.tup []) h16)
 (fun v15 h16 => pn false base v15 h16)) := (loop_eq (cAt [1, 1, 0, 0, 0] slices_rotateCmpFunc_api_Re_c) ((blockK 0 ((seqK (fun _ t => slices_rotateCmpFunc_api_Re_C base (cAt [1, 1, 1] slices_rotateCmpFunc_api_Re_c) (slices_rotateCmpFunc_api_Re_e base) (trimA slices_rotateCmpFunc_api_Re_ks (cAt [1, 1, 1] slices_rotateCmpFunc_api_Re_c) t)) (slices_rotateCmpFunc_api_Re_e base))))) _ H []).trans (by kernel_rfl)
def slices_rotateCmpFunc_api_Re (base : Nat) (t0 t1 t2 t3 t4 : V) (H : Heap) : Option (Out × Heap) := slices_rotateCmpFunc_api_Re_C base slices_rotateCmpFunc_api_Re_c (slices_rotateCmpFunc_api_Re_e base) [(0, t0), (1, t1), (2, t2), (3, t3), (4, t4)] H []
theorem slices_rotateCmpFunc_api_Re_eq (base : Nat) (t0 t1 t2 t3 t4 : V) (H : Heap) : slices_rotateCmpFunc_api_Re base t0 t1 t2 t3 t4 H =
 bnd (oBin .sub 6 t2 t1) fun v0 =>
 bnd (oBin .sub 6 t3 t2) fun v1 =>
 slices_rotateCmpFunc_api_Re_l1 base t0 t2 t4 v0 v1 H := by kernel_rfl
theorem slices_rotateCmpFunc_api_Re_E (t0 t1 t2 t3 t4 : V) (H : Heap) : E n_slices_rotateCmpFunc_api_Re [t0, t1, t2, t3, t4] H = slices_rotateCmpFunc_api_Re H.length t0 t1 t2 t3 t4 H := (EV_at Tryd.func76 (by kernel_rfl) (by kernel_rfl) (by kernel_rfl)).trans (by kernel_rfl)

def slices_swapRangeCmpFunc_api_Re_c : Code := bodyOf Tryd.f81
def slices_swapRangeCmpFunc_api_Re_ks : Ks := [(1, [0, 1, 2, 3, 10])]
def slices_swapRangeCmpFunc_api_Re_e (base : Nat) : KC (Out × Heap) := xEnd Tryd.prog D false base 38 Tryd.f81.results.toList
def slices_swapRangeCmpFunc_api_Re_C (base : Nat) (c : Code) (k : KC (Out × Heap)) (t : Ts) (H : Heap) (d : Ds) : Option (Out × Heap) := xC Tryd.prog base true slices_swapRangeCmpFunc_api_Re_ks E 38 c k t H d
def slices_swapRangeCmpFunc_api_Re_l1 (base : Nat) (t0 t1 t2 t3 t10 : V) (H : Heap) : Option (Out × Heap) :=
iterL (fun t H d again => slices_swapRangeCmpFunc_api_Re_C base (cAt [1, 0, 0] slices_swapRangeCmpFunc_api_Re_c) (loopK slices_swapRangeCmpFunc_api_Re_ks (cAt [1, 0, 0] slices_swapRangeCmpFunc_api_Re_c) again ((blockK 0 (slices_swapRangeCmpFunc_api_Re_e base)))) t H d) [(0, t0), (1, t1), (2, t2), (3, t3), (10, t10)] H []
theorem slices_swapRangeCmpFunc_api_Re_l1_eq (base : Nat) (t0 t1 t2 t3 t10 : V) (H : Heap) : slices_swapRangeCmpFunc_api_Re_l1 base t0 t1 t2 t3 t10 H =
 bnd (oBin .lss 6 t10 t3) fun v0 =>
 cnd v0
 (bnd (oBin .add 6 t1 t10) fun v1 =>
 bnd (oBin .add 6 t2 t10) fun v2 =>
 bnd (oBin .add 6 t2 t10) fun v3 =>
 bnd (oIndexPtr 6 t0 v3) fun v4 =>
 bnd (oLoad true 6 H v4) fun v5 =>
 bnd (oBin .add 6 t1 t10) fun v6 =>
 bnd (oIndexPtr 6 t0 v6) fun v7 =>
 bnd (oLoad true 6 H v7) fun v8 =>
 bnd (oIndexPtr 6 t0 v1) fun v9 =>
 beff (oStore base 6 H v9 v5) fun v10 h11 =>
 bnd (oIndexPtr 6 t0 v2) fun v12 =>
 beff (oStore base 6 h11 v12 v8) fun v13 h14 =>
 bnd (oBin .add 6 t10 (.int .i64 1)) fun v15 =>
 slices_swapRangeCmpFunc_api_Re_l1 base t0 t1 t2 t3 v15 h14)
 (rt false base (.tup []) H) := (loop_eq (cAt [1, 0, 0] slices_swapRangeCmpFunc_api_Re_c) ((blockK 0 (slices_swapRangeCmpFunc_api_Re_e base))) _ H []).trans (by kernel_rfl)
def slices_swapRangeCmpFunc_api_Re (base : Nat) (t0 t1 t2 t3 t4 : V) (H : Heap) : Option (Out × Heap) := slices_swapRangeCmpFunc_api_Re_C base slices_swapRangeCmpFunc_api_Re_c (slices_swapRangeCmpFunc_api_Re_e base) [(0, t0), (1, t1), (2, t2), (3, t3), (4, t4)] H []
theorem slices_swapRangeCmpFunc_api_Re_eq (base : Nat) (t0 t1 t2 t3 t4 : V) (H : Heap) : slices_swapRangeCmpFunc_api_Re base t0 t1 t2 t3 t4 H =
 slices_swapRangeCmpFunc_api_Re_l1 base t0 t1 t2 t3 (.int .i64 0) H := by kernel_rfl
theorem slices_swapRangeCmpFunc_api_Re_E (t0 t1 t2 t3 t4 : V) (H : Heap) : E n_slices_swapRangeCmpFunc_api_Re [t0, t1, t2, t3, t4] H = slices_swapRangeCmpFunc_api_Re H.length t0 t1 t2 t3 t4 H := (EV_at Tryd.func81 (by kernel_rfl) (by kernel_rfl) (by kernel_rfl)).trans (by kernel_rfl)
end
end Go.Proofs.YtjnkigaiogjfcaaDoor
end

