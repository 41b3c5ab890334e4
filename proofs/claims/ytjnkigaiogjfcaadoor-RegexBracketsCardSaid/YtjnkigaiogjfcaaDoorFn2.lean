/- Fn2: a part of the proof that each law of this seat answers true at every input. No condition. -/
import Derived.Test.YtjnkigaiogjfcaaDoorHint
import Derived.KernelRfl
set_option linter.unusedVariables false
set_option linter.unusedSimpArgs false
set_option maxRecDepth 20000
section
/- Printed: what functions do. -/
namespace Go.Proofs.YtjnkigaiogjfcaaDoor
open Go Go.Ev
set_option linter.unusedVariables false
noncomputable section

def ref07_Star_c : Code := bodyOf Tryd.f25
def ref07_Star_ks : Ks := [(7, [1, 2])]
def ref07_Star_e (base : Nat) : KC (Out × Heap) := xEnd Tryd.prog D false base 15 Tryd.f25.results.toList
def ref07_Star_C (base : Nat) (c : Code) (k : KC (Out × Heap)) (t : Ts) (H : Heap) (d : Ds) : Option (Out × Heap) := xC Tryd.prog base false ref07_Star_ks E 15 c k t H d
def ref07_Star_j1 (base : Nat) (t1 t2 : V) (H : Heap) : Option (Out × Heap) :=
ref07_Star_C base (cAt [1, 1] ref07_Star_c) (ref07_Star_e base) [(1, t1), (2, t2)] H []
theorem ref07_Star_j1_eq (base : Nat) (t1 t2 : V) (H : Heap) : ref07_Star_j1 base t1 t2 H =
 bnd (oLoad true 6 H t1) fun v16 =>
 bnd (oLit 6 1 (.agg [(.int .i64 0), (.int .u64 0), (.int .u64 0), (.int .u64 0), (.int .u64 0), (.vs [])]) [(0, v16)]) fun v17 =>
 bnd (oBuild [(.int .i64 0), (.int .u64 0), (.int .u64 0), (.int .u64 0), (.int .u64 0), .nils] [(0, 1), (1, 4), (5, 1)] [(0, (.int .i64 5)), (2, v17)]) fun v18 =>
 beff (oStore base 6 H t2 v18) fun v19 h20 =>
 bnd (oLoad true 6 h20 t2) fun v21 =>
 rt false base v21 h20 := by kernel_rfl
def ref07_Star (base : Nat) (t0 : V) (H : Heap) : Option (Out × Heap) := ref07_Star_C base ref07_Star_c (ref07_Star_e base) [(0, t0)] H []
theorem ref07_Star_eq (base : Nat) (t0 : V) (H : Heap) : ref07_Star base t0 H =
 beff (oVar H t0) fun v0 h1 =>
 beff (oVar h1 (.agg [(.int .i64 0), (.int .u64 0), (.int .u64 0), (.int .u64 0), (.int .u64 0), .nils])) fun v2 h3 =>
 bnd (oFieldPtr v0 0) fun v4 =>
 bnd (oLoad false 1 h3 v4) fun v5 =>
 bnd (oBin .eql 6 v5 (.int .i64 0)) fun v6 =>
 cnd v6
 (cnd v6
 (bnd (oBuild [(.int .i64 0), (.int .u64 0), (.int .u64 0), (.int .u64 0), (.int .u64 0), .nils] [(0, 1), (1, 4), (5, 1)] [(0, (.int .i64 1))]) fun v7 =>
 beff (oStore base 6 h3 v2 v7) fun v8 h9 =>
 bnd (oLoad true 6 h9 v2) fun v10 =>
 rt false base v10 h9)
 (bnd (oBin .eql 6 v5 (.int .i64 5)) fun v11 =>
 cnd v11
 (bnd (oLoad true 6 h3 v0) fun v12 =>
 beff (oStore base 6 h3 v2 v12) fun v13 h14 =>
 bnd (oLoad true 6 h14 v2) fun v15 =>
 rt false base v15 h14)
 (ref07_Star_j1 base v0 v2 h3)))
 (bnd (oBin .eql 6 v5 (.int .i64 1)) fun v22 =>
 cnd v22
 (bnd (oBuild [(.int .i64 0), (.int .u64 0), (.int .u64 0), (.int .u64 0), (.int .u64 0), .nils] [(0, 1), (1, 4), (5, 1)] [(0, (.int .i64 1))]) fun v23 =>
 beff (oStore base 6 h3 v2 v23) fun v24 h25 =>
 bnd (oLoad true 6 h25 v2) fun v26 =>
 rt false base v26 h25)
 (bnd (oBin .eql 6 v5 (.int .i64 5)) fun v27 =>
 cnd v27
 (bnd (oLoad true 6 h3 v0) fun v28 =>
 beff (oStore base 6 h3 v2 v28) fun v29 h30 =>
 bnd (oLoad true 6 h30 v2) fun v31 =>
 rt false base v31 h30)
 (ref07_Star_j1 base v0 v2 h3))) := by kernel_rfl
theorem ref07_Star_E (t0 : V) (H : Heap) : E n_ref07_Star [t0] H = ref07_Star H.length t0 H := (EV_at Tryd.func25 (by kernel_rfl) (by kernel_rfl) (by kernel_rfl)).trans (by kernel_rfl)

def ref07_Cat_c : Code := bodyOf Tryd.f26
def ref07_Cat_ks : Ks := [(4, [2, 3, 4, 5]), (5, [2, 3, 4, 5])]
def ref07_Cat_e (base : Nat) : KC (Out × Heap) := xEnd Tryd.prog D false base 40 Tryd.f26.results.toList
def ref07_Cat_C (base : Nat) (c : Code) (k : KC (Out × Heap)) (t : Ts) (H : Heap) (d : Ds) : Option (Out × Heap) := xC Tryd.prog base false ref07_Cat_ks E 40 c k t H d
def ref07_Cat_l1 (base : Nat) (t2 t3 t4 t5 : V) (H : Heap) : Option (Out × Heap) :=
iterL (fun t H d again => ref07_Cat_C base (cAt [1, 1, 1, 0, 1, 0, 0] ref07_Cat_c) (loopK ref07_Cat_ks (cAt [1, 1, 1, 0, 1, 0, 0] ref07_Cat_c) again ((blockK 0 ((seqK (fun _ t => ref07_Cat_C base (cAt [1, 1, 1, 1] ref07_Cat_c) (ref07_Cat_e base) (trimA ref07_Cat_ks (cAt [1, 1, 1, 1] ref07_Cat_c) t)) (ref07_Cat_e base)))))) t H d) [(2, t2), (3, t3), (4, t4), (5, t5)] H []
def ref07_Cat_j2 (base : Nat) (t2 t3 t4 t5 : V) (H : Heap) : Option (Out × Heap) :=
ref07_Cat_C base (cAt [1, 1, 1, 0, 1, 0, 0, 1, 1] ref07_Cat_c) ((loopK ref07_Cat_ks (cAt [1, 1, 1, 0, 1, 0, 0] ref07_Cat_c) (iterL (fun t H d again => ref07_Cat_C base (cAt [1, 1, 1, 0, 1, 0, 0] ref07_Cat_c) (loopK ref07_Cat_ks (cAt [1, 1, 1, 0, 1, 0, 0] ref07_Cat_c) again ((blockK 0 ((seqK (fun _ t => ref07_Cat_C base (cAt [1, 1, 1, 1] ref07_Cat_c) (ref07_Cat_e base) (trimA ref07_Cat_ks (cAt [1, 1, 1, 1] ref07_Cat_c) t)) (ref07_Cat_e base)))))) t H d)) ((blockK 0 ((seqK (fun _ t => ref07_Cat_C base (cAt [1, 1, 1, 1] ref07_Cat_c) (ref07_Cat_e base) (trimA ref07_Cat_ks (cAt [1, 1, 1, 1] ref07_Cat_c) t)) (ref07_Cat_e base))))))) [(2, t2), (3, t3), (4, t4), (5, t5)] H []
theorem ref07_Cat_j2_eq (base : Nat) (t2 t3 t4 t5 : V) (H : Heap) : ref07_Cat_j2 base t2 t3 t4 t5 H =
 bnd (oBin .add 6 t5 (.int .i64 1)) fun v23 =>
 ref07_Cat_l1 base t2 t3 t4 v23 H := by kernel_rfl
theorem ref07_Cat_l1_eq (base : Nat) (t2 t3 t4 t5 : V) (H : Heap) : ref07_Cat_l1 base t2 t3 t4 t5 H =
 bnd (oLenSl t3) fun v4 =>
 bnd (oBin .lss 6 t5 v4) fun v5 =>
 cnd v5
 (bnd (oIndexPtr 6 t3 t5) fun v6 =>
 bnd (oFieldPtr v6 0) fun v7 =>
 bnd (oLoad false 1 H v7) fun v8 =>
 bnd (oBin .eql 6 v8 (.int .i64 0)) fun v9 =>
 cnd v9
 (bnd (oBuild [(.int .i64 0), (.int .u64 0), (.int .u64 0), (.int .u64 0), (.int .u64 0), .nils] [(0, 1), (1, 4), (5, 1)] []) fun v10 =>
 beff (oStore base 6 H t2 v10) fun v11 h12 =>
 bnd (oLoad true 6 h12 t2) fun v13 =>
 rt false base v13 h12)
 (bnd (oIndexPtr 6 t3 t5) fun v14 =>
 bnd (oFieldPtr v14 0) fun v15 =>
 bnd (oLoad false 1 H v15) fun v16 =>
 bnd (oBin .neq 6 v16 (.int .i64 1)) fun v17 =>
 cnd v17
 (bnd (oIndexPtr 6 t3 t5) fun v18 =>
 bnd (oLoad true 6 H v18) fun v19 =>
 bnd (oLit 6 1 (.agg [(.int .i64 0), (.int .u64 0), (.int .u64 0), (.int .u64 0), (.int .u64 0), (.vs [])]) [(0, v19)]) fun v20 =>
 beff (oAppend base 6 64 true t4 v20 H) fun v21 h22 =>
 ref07_Cat_j2 base t2 t3 v21 t5 h22)
 (ref07_Cat_j2 base t2 t3 t4 t5 H)))
 (bnd (oLenSl t4) fun v24 =>
 bnd (oBin .eql 6 v24 (.int .i64 0)) fun v25 =>
 cnd v25
 (bnd (oBuild [(.int .i64 0), (.int .u64 0), (.int .u64 0), (.int .u64 0), (.int .u64 0), .nils] [(0, 1), (1, 4), (5, 1)] [(0, (.int .i64 1))]) fun v26 =>
 beff (oStore base 6 H t2 v26) fun v27 h28 =>
 bnd (oLoad true 6 h28 t2) fun v29 =>
 rt false base v29 h28)
 (bcall (E n_ref07_some [t4, (.int .i64 3)] H) (fun v30 h31 =>
 beff (oStore base 6 h31 t2 v30) fun v32 h33 =>
 bnd (oLoad true 6 h33 t2) fun v34 =>
 rt false base v34 h33)
 (fun v30 h31 => pn false base v30 h31))) := (loop_eq (cAt [1, 1, 1, 0, 1, 0, 0] ref07_Cat_c) ((blockK 0 ((seqK (fun _ t => ref07_Cat_C base (cAt [1, 1, 1, 1] ref07_Cat_c) (ref07_Cat_e base) (trimA ref07_Cat_ks (cAt [1, 1, 1, 1] ref07_Cat_c) t)) (ref07_Cat_e base))))) _ H []).trans (by kernel_rfl)
def ref07_Cat (base : Nat) (t0 : V) (H : Heap) : Option (Out × Heap) := ref07_Cat_C base ref07_Cat_c (ref07_Cat_e base) [(0, t0)] H []
theorem ref07_Cat_eq (base : Nat) (t0 : V) (H : Heap) : ref07_Cat base t0 H =
 beff (oVar H (.agg [(.int .i64 0), (.int .u64 0), (.int .u64 0), (.int .u64 0), (.int .u64 0), .nils])) fun v0 h1 =>
 bcall (E n_ref07_flat [t0, (.int .i64 3)] h1) (fun v2 h3 =>
 ref07_Cat_l1 base v0 v2 .nils (.int .i64 0) h3)
 (fun v2 h3 => pn false base v2 h3) := by kernel_rfl
theorem ref07_Cat_E (t0 : V) (H : Heap) : E n_ref07_Cat [t0] H = ref07_Cat H.length t0 H := (EV_at Tryd.func26 (by kernel_rfl) (by kernel_rfl) (by kernel_rfl)).trans (by kernel_rfl)

def ref07_Either_c : Code := bodyOf Tryd.f27
def ref07_Either_ks : Ks := [(5, [2, 3, 4, 5, 6]), (6, [2, 3, 4, 5, 6]), (11, [2, 3, 4]), (12, [2, 3, 4, 7]), (13, [2, 3, 4, 7])]
def ref07_Either_e (base : Nat) : KC (Out × Heap) := xEnd Tryd.prog D false base 69 Tryd.f27.results.toList
def ref07_Either_C (base : Nat) (c : Code) (k : KC (Out × Heap)) (t : Ts) (H : Heap) (d : Ds) : Option (Out × Heap) := xC Tryd.prog base false ref07_Either_ks E 69 c k t H d
def ref07_Either_l1 (base : Nat) (t2 t3 t4 t5 t6 : V) (H : Heap) : Option (Out × Heap) :=
iterL (fun t H d again => ref07_Either_C base (cAt [1, 1, 1, 1, 0, 1, 0, 0] ref07_Either_c) (loopK ref07_Either_ks (cAt [1, 1, 1, 1, 0, 1, 0, 0] ref07_Either_c) again ((blockK 0 ((seqK (fun _ t => ref07_Either_C base (cAt [1, 1, 1, 1, 1] ref07_Either_c) (ref07_Either_e base) (trimA ref07_Either_ks (cAt [1, 1, 1, 1, 1] ref07_Either_c) t)) (ref07_Either_e base)))))) t H d) [(2, t2), (3, t3), (4, t4), (5, t5), (6, t6)] H []
def ref07_Either_j2 (base : Nat) (t2 t3 t4 t5 t6 : V) (H : Heap) : Option (Out × Heap) :=
ref07_Either_C base (cAt [1, 1, 1, 1, 0, 1, 0, 0, 1, 1] ref07_Either_c) ((loopK ref07_Either_ks (cAt [1, 1, 1, 1, 0, 1, 0, 0] ref07_Either_c) (iterL (fun t H d again => ref07_Either_C base (cAt [1, 1, 1, 1, 0, 1, 0, 0] ref07_Either_c) (loopK ref07_Either_ks (cAt [1, 1, 1, 1, 0, 1, 0, 0] ref07_Either_c) again ((blockK 0 ((seqK (fun _ t => ref07_Either_C base (cAt [1, 1, 1, 1, 1] ref07_Either_c) (ref07_Either_e base) (trimA ref07_Either_ks (cAt [1, 1, 1, 1, 1] ref07_Either_c) t)) (ref07_Either_e base)))))) t H d)) ((blockK 0 ((seqK (fun _ t => ref07_Either_C base (cAt [1, 1, 1, 1, 1] ref07_Either_c) (ref07_Either_e base) (trimA ref07_Either_ks (cAt [1, 1, 1, 1, 1] ref07_Either_c) t)) (ref07_Either_e base))))))) [(2, t2), (3, t3), (4, t4), (5, t5), (6, t6)] H []
theorem ref07_Either_j2_eq (base : Nat) (t2 t3 t4 t5 t6 : V) (H : Heap) : ref07_Either_j2 base t2 t3 t4 t5 t6 H =
 bnd (oBin .add 6 t6 (.int .i64 1)) fun v20 =>
 ref07_Either_l1 base t2 t3 t4 t5 v20 H := by kernel_rfl
def ref07_Either_l4 (base : Nat) (t2 t3 t4 t7 : V) (H : Heap) : Option (Out × Heap) :=
iterL (fun t H d again => ref07_Either_C base (cAt [1, 1, 1, 1, 1, 1, 0, 1, 0, 0] ref07_Either_c) (loopK ref07_Either_ks (cAt [1, 1, 1, 1, 1, 1, 0, 1, 0, 0] ref07_Either_c) again ((blockK 2 ((seqK (fun _ t => ref07_Either_C base (cAt [1, 1, 1, 1, 1, 1, 1] ref07_Either_c) (ref07_Either_e base) (trimA ref07_Either_ks (cAt [1, 1, 1, 1, 1, 1, 1] ref07_Either_c) t)) (ref07_Either_e base)))))) t H d) [(2, t2), (3, t3), (4, t4), (7, t7)] H []
def ref07_Either_j5 (base : Nat) (t2 t3 t4 t7 : V) (H : Heap) : Option (Out × Heap) :=
ref07_Either_C base (cAt [1, 1, 1, 1, 1, 1, 0, 1, 0, 0, 1, 1] ref07_Either_c) ((loopK ref07_Either_ks (cAt [1, 1, 1, 1, 1, 1, 0, 1, 0, 0] ref07_Either_c) (iterL (fun t H d again => ref07_Either_C base (cAt [1, 1, 1, 1, 1, 1, 0, 1, 0, 0] ref07_Either_c) (loopK ref07_Either_ks (cAt [1, 1, 1, 1, 1, 1, 0, 1, 0, 0] ref07_Either_c) again ((blockK 2 ((seqK (fun _ t => ref07_Either_C base (cAt [1, 1, 1, 1, 1, 1, 1] ref07_Either_c) (ref07_Either_e base) (trimA ref07_Either_ks (cAt [1, 1, 1, 1, 1, 1, 1] ref07_Either_c) t)) (ref07_Either_e base)))))) t H d)) ((blockK 2 ((seqK (fun _ t => ref07_Either_C base (cAt [1, 1, 1, 1, 1, 1, 1] ref07_Either_c) (ref07_Either_e base) (trimA ref07_Either_ks (cAt [1, 1, 1, 1, 1, 1, 1] ref07_Either_c) t)) (ref07_Either_e base))))))) [(2, t2), (3, t3), (4, t4), (7, t7)] H []
theorem ref07_Either_j5_eq (base : Nat) (t2 t3 t4 t7 : V) (H : Heap) : ref07_Either_j5 base t2 t3 t4 t7 H =
 bnd (oBin .add 6 t7 (.int .i64 1)) fun v48 =>
 ref07_Either_l4 base t2 t3 t4 v48 H := by kernel_rfl
theorem ref07_Either_l4_eq (base : Nat) (t2 t3 t4 t7 : V) (H : Heap) : ref07_Either_l4 base t2 t3 t4 t7 H =
 bnd (oLenSl t3) fun v31 =>
 bnd (oBin .lss 6 t7 v31) fun v32 =>
 cnd v32
 (bnd (oIndexPtr 6 t3 t7) fun v33 =>
 bnd (oFieldPtr v33 0) fun v34 =>
 bnd (oLoad false 1 H v34) fun v35 =>
 bnd (oBin .neq 6 v35 (.int .i64 0)) fun v36 =>
 bnd (gua v36 true (oMove t3) (some (.tup []))) fun v37 =>
 bnd (gua v36 true (oMove t7) (some (.tup []))) fun v38 =>
 bnd (gua v36 true (oIndexPtr 6 v37 v38) (some (.tup []))) fun v39 =>
 bnd (gua v36 true (oFieldPtr v39 0) (some (.tup []))) fun v40 =>
 bnd (gua v36 true (oLoad false 1 H v40) (some (.tup []))) fun v41 =>
 bnd (gua v36 true (oBin .neq 6 v41 (.int .i64 2)) (some (.tup []))) fun v42 =>
 bnd (oPick v36 v42 (.bool false)) fun v43 =>
 cnd v43
 (bnd (oIndexPtr 6 t3 t7) fun v44 =>
 bnd (oLoad true 6 H v44) fun v45 =>
 bcall (E n_ref07_put [t4, v45] H) (fun v46 h47 =>
 ref07_Either_j5 base t2 t3 v46 t7 h47)
 (fun v46 h47 => pn false base v46 h47))
 (ref07_Either_j5 base t2 t3 t4 t7 H))
 (bnd (oLenSl t4) fun v49 =>
 bnd (oBin .eql 6 v49 (.int .i64 0)) fun v50 =>
 cnd v50
 (bnd (oBuild [(.int .i64 0), (.int .u64 0), (.int .u64 0), (.int .u64 0), (.int .u64 0), .nils] [(0, 1), (1, 4), (5, 1)] []) fun v51 =>
 beff (oStore base 6 H t2 v51) fun v52 h53 =>
 bnd (oLoad true 6 h53 t2) fun v54 =>
 rt false base v54 h53)
 (bcall (E n_ref07_some [t4, (.int .i64 4)] H) (fun v55 h56 =>
 beff (oStore base 6 h56 t2 v55) fun v57 h58 =>
 bnd (oLoad true 6 h58 t2) fun v59 =>
 rt false base v59 h58)
 (fun v55 h56 => pn false base v55 h56))) := (loop_eq (cAt [1, 1, 1, 1, 1, 1, 0, 1, 0, 0] ref07_Either_c) ((blockK 2 ((seqK (fun _ t => ref07_Either_C base (cAt [1, 1, 1, 1, 1, 1, 1] ref07_Either_c) (ref07_Either_e base) (trimA ref07_Either_ks (cAt [1, 1, 1, 1, 1, 1, 1] ref07_Either_c) t)) (ref07_Either_e base))))) _ H []).trans (by kernel_rfl)
def ref07_Either_j3 (base : Nat) (t2 t3 t4 : V) (H : Heap) : Option (Out × Heap) :=
ref07_Either_C base (cAt [1, 1, 1, 1, 1, 1] ref07_Either_c) (ref07_Either_e base) [(2, t2), (3, t3), (4, t4)] H []
theorem ref07_Either_j3_eq (base : Nat) (t2 t3 t4 : V) (H : Heap) : ref07_Either_j3 base t2 t3 t4 H =
 ref07_Either_l4 base t2 t3 t4 (.int .i64 0) H := by kernel_rfl
theorem ref07_Either_l1_eq (base : Nat) (t2 t3 t4 t5 t6 : V) (H : Heap) : ref07_Either_l1 base t2 t3 t4 t5 t6 H =
 bnd (oLenSl t3) fun v6 =>
 bnd (oBin .lss 6 t6 v6) fun v7 =>
 cnd v7
 (bnd (oIndexPtr 6 t3 t6) fun v8 =>
 bnd (oFieldPtr v8 0) fun v9 =>
 bnd (oLoad false 1 H v9) fun v10 =>
 bnd (oBin .eql 6 v10 (.int .i64 2)) fun v11 =>
 cnd v11
 (bnd (oLoad true 4 H t5) fun v12 =>
 bnd (oIndexPtr 6 t3 t6) fun v13 =>
 bnd (oFieldPtr v13 1) fun v14 =>
 bnd (oLoad true 4 H v14) fun v15 =>
 bcall (E n_ref01_Join [v12, v15] H) (fun v16 h17 =>
 beff (oStore base 4 h17 t5 v16) fun v18 h19 =>
 ref07_Either_j2 base t2 t3 t4 t5 t6 h19)
 (fun v16 h17 => pn false base v16 h17))
 (ref07_Either_j2 base t2 t3 t4 t5 t6 H))
 (bnd (oLoad true 4 H t5) fun v21 =>
 bcall (E n_ref01_Count [v21] H) (fun v22 h23 =>
 bnd (oBin .gtr 6 v22 (.int .i64 0)) fun v24 =>
 cnd v24
 (bnd (oLoad true 4 h23 t5) fun v25 =>
 bcall (E n_ref07_Of [v25] h23) (fun v26 h27 =>
 bnd (oLit 6 1 (.agg [(.int .i64 0), (.int .u64 0), (.int .u64 0), (.int .u64 0), (.int .u64 0), (.vs [])]) [(0, v26)]) fun v28 =>
 beff (oAppend base 6 64 true t4 v28 h27) fun v29 h30 =>
 ref07_Either_j3 base t2 t3 v29 h30)
 (fun v26 h27 => pn false base v26 h27))
 (ref07_Either_j3 base t2 t3 t4 h23))
 (fun v22 h23 => pn false base v22 h23)) := (loop_eq (cAt [1, 1, 1, 1, 0, 1, 0, 0] ref07_Either_c) ((blockK 0 ((seqK (fun _ t => ref07_Either_C base (cAt [1, 1, 1, 1, 1] ref07_Either_c) (ref07_Either_e base) (trimA ref07_Either_ks (cAt [1, 1, 1, 1, 1] ref07_Either_c) t)) (ref07_Either_e base))))) _ H []).trans (by kernel_rfl)
def ref07_Either (base : Nat) (t0 : V) (H : Heap) : Option (Out × Heap) := ref07_Either_C base ref07_Either_c (ref07_Either_e base) [(0, t0)] H []
theorem ref07_Either_eq (base : Nat) (t0 : V) (H : Heap) : ref07_Either base t0 H =
 beff (oVar H (.agg [(.int .i64 0), (.int .u64 0), (.int .u64 0), (.int .u64 0), (.int .u64 0), .nils])) fun v0 h1 =>
 bcall (E n_ref07_flat [t0, (.int .i64 4)] h1) (fun v2 h3 =>
 beff (oVar h3 (.agg [(.int .u64 0), (.int .u64 0), (.int .u64 0), (.int .u64 0)])) fun v4 h5 =>
 ref07_Either_l1 base v0 v2 .nils v4 (.int .i64 0) h5)
 (fun v2 h3 => pn false base v2 h3) := by kernel_rfl
theorem ref07_Either_E (t0 : V) (H : Heap) : E n_ref07_Either [t0] H = ref07_Either H.length t0 H := (EV_at Tryd.func27 (by kernel_rfl) (by kernel_rfl) (by kernel_rfl)).trans (by kernel_rfl)

def ref01_Count_c : Code := bodyOf Tryd.f28
def ref01_Count_ks : Ks := [(3, [1, 3, 4]), (4, [1, 3, 4])]
def ref01_Count_e (base : Nat) : KC (Out × Heap) := xEnd Tryd.prog D false base 15 Tryd.f28.results.toList
def ref01_Count_C (base : Nat) (c : Code) (k : KC (Out × Heap)) (t : Ts) (H : Heap) (d : Ds) : Option (Out × Heap) := xC Tryd.prog base false ref01_Count_ks E 15 c k t H d
def ref01_Count_l1 (base : Nat) (t1 t3 t4 : V) (H : Heap) : Option (Out × Heap) :=
iterL (fun t H d again => ref01_Count_C base (cAt [1, 1, 0, 1, 0, 0] ref01_Count_c) (loopK ref01_Count_ks (cAt [1, 1, 0, 1, 0, 0] ref01_Count_c) again ((blockK 0 ((seqK (fun _ t => ref01_Count_C base (cAt [1, 1, 1] ref01_Count_c) (ref01_Count_e base) (trimA ref01_Count_ks (cAt [1, 1, 1] ref01_Count_c) t)) (ref01_Count_e base)))))) t H d) [(1, t1), (3, t3), (4, t4)] H []
def ref01_Count_j2 (base : Nat) (t1 t3 t4 : V) (H : Heap) : Option (Out × Heap) :=
ref01_Count_C base (cAt [1, 1, 0, 1, 0, 0, 1, 1] ref01_Count_c) ((loopK ref01_Count_ks (cAt [1, 1, 0, 1, 0, 0] ref01_Count_c) (iterL (fun t H d again => ref01_Count_C base (cAt [1, 1, 0, 1, 0, 0] ref01_Count_c) (loopK ref01_Count_ks (cAt [1, 1, 0, 1, 0, 0] ref01_Count_c) again ((blockK 0 ((seqK (fun _ t => ref01_Count_C base (cAt [1, 1, 1] ref01_Count_c) (ref01_Count_e base) (trimA ref01_Count_ks (cAt [1, 1, 1] ref01_Count_c) t)) (ref01_Count_e base)))))) t H d)) ((blockK 0 ((seqK (fun _ t => ref01_Count_C base (cAt [1, 1, 1] ref01_Count_c) (ref01_Count_e base) (trimA ref01_Count_ks (cAt [1, 1, 1] ref01_Count_c) t)) (ref01_Count_e base))))))) [(1, t1), (3, t3), (4, t4)] H []
theorem ref01_Count_j2_eq (base : Nat) (t1 t3 t4 : V) (H : Heap) : ref01_Count_j2 base t1 t3 t4 H =
 bnd (oBin .add 6 t4 (.int .i64 1)) fun v7 =>
 ref01_Count_l1 base t1 t3 v7 H := by kernel_rfl
theorem ref01_Count_l1_eq (base : Nat) (t1 t3 t4 : V) (H : Heap) : ref01_Count_l1 base t1 t3 t4 H =
 bnd (oBin .lss 6 t4 (.int .i64 256)) fun v2 =>
 cnd v2
 (bnd (oLoad true 4 H t1) fun v3 =>
 bcall (E n_ref01_Has [v3, t4] H) (fun v4 h5 =>
 cnd v4
 (bnd (oBin .add 6 t3 (.int .i64 1)) fun v6 =>
 ref01_Count_j2 base t1 v6 t4 h5)
 (ref01_Count_j2 base t1 t3 t4 h5))
 (fun v4 h5 => pn false base v4 h5))
 (rt false base t3 H) := (loop_eq (cAt [1, 1, 0, 1, 0, 0] ref01_Count_c) ((blockK 0 ((seqK (fun _ t => ref01_Count_C base (cAt [1, 1, 1] ref01_Count_c) (ref01_Count_e base) (trimA ref01_Count_ks (cAt [1, 1, 1] ref01_Count_c) t)) (ref01_Count_e base))))) _ H []).trans (by kernel_rfl)
def ref01_Count (base : Nat) (t0 : V) (H : Heap) : Option (Out × Heap) := ref01_Count_C base ref01_Count_c (ref01_Count_e base) [(0, t0)] H []
theorem ref01_Count_eq (base : Nat) (t0 : V) (H : Heap) : ref01_Count base t0 H =
 beff (oVar H t0) fun v0 h1 =>
 ref01_Count_l1 base v0 (.int .i64 0) (.int .i64 0) h1 := by kernel_rfl
theorem ref01_Count_E (t0 : V) (H : Heap) : E n_ref01_Count [t0] H = ref01_Count H.length t0 H := (EV_at Tryd.func28 (by kernel_rfl) (by kernel_rfl) (by kernel_rfl)).trans (by kernel_rfl)

def law07_picker_some_c : Code := bodyOf Tryd.f29
def law07_picker_some_ks : Ks := [(3, [0, 1, 2, 7, 8])]
def law07_picker_some_e (base : Nat) : KC (Out × Heap) := xEnd Tryd.prog D false base 21 Tryd.f29.results.toList
def law07_picker_some_C (base : Nat) (c : Code) (k : KC (Out × Heap)) (t : Ts) (H : Heap) (d : Ds) : Option (Out × Heap) := xC Tryd.prog base false law07_picker_some_ks E 21 c k t H d
def law07_picker_some_l1 (base : Nat) (t0 t1 t2 t7 t8 : V) (H : Heap) : Option (Out × Heap) :=
iterL (fun t H d again => law07_picker_some_C base (cAt [1, 1, 0, 1, 0, 0] law07_picker_some_c) (loopK law07_picker_some_ks (cAt [1, 1, 0, 1, 0, 0] law07_picker_some_c) again ((blockK 0 ((seqK (fun _ t => law07_picker_some_C base (cAt [1, 1, 1] law07_picker_some_c) (law07_picker_some_e base) (trimA law07_picker_some_ks (cAt [1, 1, 1] law07_picker_some_c) t)) (law07_picker_some_e base)))))) t H d) [(0, t0), (1, t1), (2, t2), (7, t7), (8, t8)] H []
theorem law07_picker_some_l1_eq (base : Nat) (t0 t1 t2 t7 t8 : V) (H : Heap) : law07_picker_some_l1 base t0 t1 t2 t7 t8 H =
 bnd (oBin .lss 6 t8 t1) fun v0 =>
 cnd v0
 (bcall (E n_law07_picker_re [t0, t2] H) (fun v1 h2 =>
 bnd (oLit 6 1 (.agg [(.int .i64 0), (.int .u64 0), (.int .u64 0), (.int .u64 0), (.int .u64 0), (.vs [])]) [(0, v1)]) fun v3 =>
 beff (oAppend base 6 64 true t7 v3 h2) fun v4 h5 =>
 bnd (oBin .add 6 t8 (.int .i64 1)) fun v6 =>
 law07_picker_some_l1 base t0 t1 t2 v4 v6 h5)
 (fun v1 h2 => pn false base v1 h2))
 (rt false base t7 H) := (loop_eq (cAt [1, 1, 0, 1, 0, 0] law07_picker_some_c) ((blockK 0 ((seqK (fun _ t => law07_picker_some_C base (cAt [1, 1, 1] law07_picker_some_c) (law07_picker_some_e base) (trimA law07_picker_some_ks (cAt [1, 1, 1] law07_picker_some_c) t)) (law07_picker_some_e base))))) _ H []).trans (by kernel_rfl)
def law07_picker_some (base : Nat) (t0 t1 t2 : V) (H : Heap) : Option (Out × Heap) := law07_picker_some_C base law07_picker_some_c (law07_picker_some_e base) [(0, t0), (1, t1), (2, t2)] H []
theorem law07_picker_some_eq (base : Nat) (t0 t1 t2 : V) (H : Heap) : law07_picker_some base t0 t1 t2 H =
 law07_picker_some_l1 base t0 t1 t2 .nils (.int .i64 0) H := by kernel_rfl
theorem law07_picker_some_E (t0 t1 t2 : V) (H : Heap) : E n_law07_picker_some [t0, t1, t2] H = law07_picker_some H.length t0 t1 t2 H := (EV_at Tryd.func29 (by kernel_rfl) (by kernel_rfl) (by kernel_rfl)).trans (by kernel_rfl)

def law07_picker_pick_c : Code := bodyOf Tryd.f30
def law07_picker_pick_ks : Ks := []
def law07_picker_pick_e (base : Nat) : KC (Out × Heap) := xEnd Tryd.prog D false base 43 Tryd.f30.results.toList
def law07_picker_pick_C (base : Nat) (c : Code) (k : KC (Out × Heap)) (t : Ts) (H : Heap) (d : Ds) : Option (Out × Heap) := xC Tryd.prog base false law07_picker_pick_ks E 43 c k t H d
def law07_picker_pick (base : Nat) (t0 t1 : V) (H : Heap) : Option (Out × Heap) := law07_picker_pick_C base law07_picker_pick_c (law07_picker_pick_e base) [(0, t0), (1, t1)] H []
theorem law07_picker_pick_eq (base : Nat) (t0 t1 : V) (H : Heap) : law07_picker_pick base t0 t1 H =
 bnd (oNil t0) fun v0 =>
 bnd (oFieldPtr v0 1) fun v1 =>
 bnd (oLoad false 1 H v1) fun v2 =>
 bnd (oBin .add 6 v2 (.int .i64 1)) fun v3 =>
 bnd (oNil t0) fun v4 =>
 bnd (oFieldPtr v4 1) fun v5 =>
 beff (oStore base 1 H v5 v3) fun v6 h7 =>
 bnd (oNil t0) fun v8 =>
 bnd (oFieldPtr v8 1) fun v9 =>
 bnd (oLoad false 1 h7 v9) fun v10 =>
 bnd (oNil t0) fun v11 =>
 bnd (oFieldPtr v11 0) fun v12 =>
 bnd (oLoad false 1 h7 v12) fun v13 =>
 bnd (oLenSl v13) fun v14 =>
 bnd (oBin .gtr 6 v10 v14) fun v15 =>
 bnd (gua v15 false (oMove t0) (some (.tup []))) fun v16 =>
 bnd (gua v15 false (oNil v16) (some (.tup []))) fun v17 =>
 bnd (gua v15 false (oFieldPtr v17 1) (some (.tup []))) fun v18 =>
 bnd (gua v15 false (oLoad false 1 h7 v18) (some (.tup []))) fun v19 =>
 bnd (gua v15 false (oBin .gtr 6 v19 (.int .i64 150)) (some (.tup []))) fun v20 =>
 bnd (oPick v15 (.bool true) v20) fun v21 =>
 cnd v21
 (rt false base (.int .i64 0) h7)
 (bnd (oNil t0) fun v22 =>
 bnd (oFieldPtr v22 0) fun v23 =>
 bnd (oLoad false 1 h7 v23) fun v24 =>
 bnd (oNil t0) fun v25 =>
 bnd (oFieldPtr v25 1) fun v26 =>
 bnd (oLoad false 1 h7 v26) fun v27 =>
 bnd (oBin .sub 6 v27 (.int .i64 1)) fun v28 =>
 bnd (oIndexPtr 1 v24 v28) fun v29 =>
 bnd (oLoad false 1 h7 v29) fun v30 =>
 bnd (oIntTo .i64 v30) fun v31 =>
 bnd (oBin .rem 6 v31 t1) fun v32 =>
 rt false base v32 h7) := by kernel_rfl
theorem law07_picker_pick_E (t0 t1 : V) (H : Heap) : E n_law07_picker_pick [t0, t1] H = law07_picker_pick H.length t0 t1 H := (EV_at Tryd.func30 (by kernel_rfl) (by kernel_rfl) (by kernel_rfl)).trans (by kernel_rfl)

def ref01_with_c : Code := bodyOf Tryd.f31
def ref01_with_ks : Ks := []
def ref01_with_e (base : Nat) : KC (Out × Heap) := xEnd Tryd.prog D false base 17 Tryd.f31.results.toList
def ref01_with_C (base : Nat) (c : Code) (k : KC (Out × Heap)) (t : Ts) (H : Heap) (d : Ds) : Option (Out × Heap) := xC Tryd.prog base false ref01_with_ks E 17 c k t H d
def ref01_with (base : Nat) (t0 t1 : V) (H : Heap) : Option (Out × Heap) := ref01_with_C base ref01_with_c (ref01_with_e base) [(0, t0), (1, t1)] H []
theorem ref01_with_eq (base : Nat) (t0 t1 : V) (H : Heap) : ref01_with base t0 t1 H =
 beff (oVar H t0) fun v0 h1 =>
 beff (oVar h1 (.agg [(.int .u64 0), (.int .u64 0), (.int .u64 0), (.int .u64 0)])) fun v2 h3 =>
 bnd (oBin .quo 6 t1 (.int .i64 64)) fun v4 =>
 bnd (oBin .quo 6 t1 (.int .i64 64)) fun v5 =>
 bnd (oIndexPtrA 4 1 v0 v5) fun v6 =>
 bnd (oLoad false 1 h3 v6) fun v7 =>
 bnd (oBin .rem 6 t1 (.int .i64 64)) fun v8 =>
 bnd (oBin .shl 6 (.int .u64 1) v8) fun v9 =>
 bnd (oBin .or 6 v7 v9) fun v10 =>
 bnd (oIndexPtrA 4 1 v0 v4) fun v11 =>
 beff (oStore base 1 h3 v11 v10) fun v12 h13 =>
 bnd (oLoad true 4 h13 v0) fun v14 =>
 beff (oStore base 4 h13 v2 v14) fun v15 h16 =>
 bnd (oLoad true 4 h16 v2) fun v17 =>
 rt false base v17 h16 := by kernel_rfl
theorem ref01_with_E (t0 t1 : V) (H : Heap) : E n_ref01_with [t0, t1] H = ref01_with H.length t0 t1 H := (EV_at Tryd.func31 (by kernel_rfl) (by kernel_rfl) (by kernel_rfl)).trans (by kernel_rfl)

def slices_ContainsFunc_api_Re_api_Re_c : Code := bodyOf Tryd.f32
def slices_ContainsFunc_api_Re_api_Re_ks : Ks := []
def slices_ContainsFunc_api_Re_api_Re_e (base : Nat) : KC (Out × Heap) := xEnd Tryd.prog D false base 9 Tryd.f32.results.toList
def slices_ContainsFunc_api_Re_api_Re_C (base : Nat) (c : Code) (k : KC (Out × Heap)) (t : Ts) (H : Heap) (d : Ds) : Option (Out × Heap) := xC Tryd.prog base true slices_ContainsFunc_api_Re_api_Re_ks E 9 c k t H d
def slices_ContainsFunc_api_Re_api_Re (base : Nat) (t0 t1 : V) (H : Heap) : Option (Out × Heap) := slices_ContainsFunc_api_Re_api_Re_C base slices_ContainsFunc_api_Re_api_Re_c (slices_ContainsFunc_api_Re_api_Re_e base) [(0, t0), (1, t1)] H []
theorem slices_ContainsFunc_api_Re_api_Re_eq (base : Nat) (t0 t1 : V) (H : Heap) : slices_ContainsFunc_api_Re_api_Re base t0 t1 H =
 bcall (E n_slices_IndexFunc_api_Re_api_Re [t0, t1] H) (fun v0 h1 =>
 bnd (oBin .geq 6 v0 (.int .i64 0)) fun v2 =>
 rt false base v2 h1)
 (fun v0 h1 => pn false base v0 h1) := by kernel_rfl
theorem slices_ContainsFunc_api_Re_api_Re_E (t0 t1 : V) (H : Heap) : E n_slices_ContainsFunc_api_Re_api_Re [t0, t1] H = slices_ContainsFunc_api_Re_api_Re H.length t0 t1 H := (EV_at Tryd.func32 (by kernel_rfl) (by kernel_rfl) (by kernel_rfl)).trans (by kernel_rfl)

def regex_Right_1_c : Code := bodyOf Tryd.f33
def regex_Right_1_ks : Ks := []
def regex_Right_1_e (base : Nat) : KC (Out × Heap) := xEnd Tryd.prog D false base 6 Tryd.f33.results.toList
def regex_Right_1_C (base : Nat) (c : Code) (k : KC (Out × Heap)) (t : Ts) (H : Heap) (d : Ds) : Option (Out × Heap) := xC Tryd.prog base false regex_Right_1_ks E 6 c k t H d
def regex_Right_1 (base : Nat) (t0 : V) (H : Heap) : Option (Out × Heap) := regex_Right_1_C base regex_Right_1_c (regex_Right_1_e base) [(0, t0)] H []
theorem regex_Right_1_eq (base : Nat) (t0 : V) (H : Heap) : regex_Right_1 base t0 H =
 beff (oVar H t0) fun v0 h1 =>
 bnd (oLoad true 6 h1 v0) fun v2 =>
 bcall (E n_regex_Right [v2] h1) (fun v3 h4 =>
 bnd (oUn .not v3) fun v5 =>
 rt false base v5 h4)
 (fun v3 h4 => pn false base v3 h4) := by kernel_rfl
theorem regex_Right_1_E (t0 : V) (H : Heap) : E n_regex_Right_1 [t0] H = regex_Right_1 H.length t0 H := (EV_at Tryd.func33 (by kernel_rfl) (by kernel_rfl) (by kernel_rfl)).trans (by kernel_rfl)

def regex_same_c : Code := bodyOf Tryd.f34
def regex_same_ks : Ks := []
def regex_same_e (base : Nat) : KC (Out × Heap) := xEnd Tryd.prog D false base 24 Tryd.f34.results.toList
def regex_same_C (base : Nat) (c : Code) (k : KC (Out × Heap)) (t : Ts) (H : Heap) (d : Ds) : Option (Out × Heap) := xC Tryd.prog base false regex_same_ks E 24 c k t H d
def regex_same (base : Nat) (t0 t1 : V) (H : Heap) : Option (Out × Heap) := regex_same_C base regex_same_c (regex_same_e base) [(0, t0), (1, t1)] H []
theorem regex_same_eq (base : Nat) (t0 t1 : V) (H : Heap) : regex_same base t0 t1 H =
 beff (oVar H t0) fun v0 h1 =>
 beff (oVar h1 t1) fun v2 h3 =>
 bnd (oFieldPtr v0 0) fun v4 =>
 bnd (oLoad false 1 h3 v4) fun v5 =>
 bnd (oFieldPtr v2 0) fun v6 =>
 bnd (oLoad false 1 h3 v6) fun v7 =>
 bnd (oBin .eql 6 v5 v7) fun v8 =>
 bnd (gua v8 true (oFieldPtr v0 1) (some (.tup []))) fun v9 =>
 bnd (gua v8 true (oLoad true 4 h3 v9) (some (.tup []))) fun v10 =>
 bnd (gua v8 true (oFieldPtr v2 1) (some (.tup []))) fun v11 =>
 bnd (gua v8 true (oLoad true 4 h3 v11) (some (.tup []))) fun v12 =>
 bnd (gua v8 true (oBin .eql 46 v10 v12) (some (.tup []))) fun v13 =>
 bnd (oPick v8 v13 (.bool false)) fun v14 =>
 bnd (gua v14 true (oFieldPtr v0 5) (some (.tup []))) fun v15 =>
 bnd (gua v14 true (oLoad false 1 h3 v15) (some (.tup []))) fun v16 =>
 bnd (gua v14 true (oFieldPtr v2 5) (some (.tup []))) fun v17 =>
 bnd (gua v14 true (oLoad false 1 h3 v17) (some (.tup []))) fun v18 =>
 bcall (gua v14 true (E n_slices_EqualFunc_api_Re_api_Re_api_Re_api_Re [v16, v18, (.fn n_regex_same [])] h3) (some (.ret (.tup []), h3))) (fun v19 h20 =>
 bnd (oPick v14 v19 (.bool false)) fun v21 =>
 rt false base v21 h20)
 (fun v19 h20 => pn false base v19 h20) := by kernel_rfl
theorem regex_same_E (t0 t1 : V) (H : Heap) : E n_regex_same [t0, t1] H = regex_same H.length t0 t1 H := (EV_at Tryd.func34 (by kernel_rfl) (by kernel_rfl) (by kernel_rfl)).trans (by kernel_rfl)

def regex_flat_c : Code := bodyOf Tryd.f35
def regex_flat_ks : Ks := [(2, [1, 4, 7, 8, 9]), (7, [1, 4, 7, 8, 9])]
def regex_flat_e (base : Nat) : KC (Out × Heap) := xEnd Tryd.prog D true base 27 Tryd.f35.results.toList
def regex_flat_C (base : Nat) (c : Code) (k : KC (Out × Heap)) (t : Ts) (H : Heap) (d : Ds) : Option (Out × Heap) := xC Tryd.prog base false regex_flat_ks E 27 c k t H d
def regex_flat_l1 (base : Nat) (t1 t4 t7 t8 t9 : V) (H : Heap) : Option (Out × Heap) :=
iterL (fun t H d again => regex_flat_C base (cAt [1, 0, 1, 0, 0] regex_flat_c) (loopK regex_flat_ks (cAt [1, 0, 1, 0, 0] regex_flat_c) again ((blockK 0 ((seqK (fun _ t => regex_flat_C base (cAt [1, 1] regex_flat_c) (regex_flat_e base) (trimA regex_flat_ks (cAt [1, 1] regex_flat_c) t)) (regex_flat_e base)))))) t H d) [(1, t1), (4, t4), (7, t7), (8, t8), (9, t9)] H []
def regex_flat_j2 (base : Nat) (t1 t4 t7 t8 t9 : V) (H : Heap) : Option (Out × Heap) :=
regex_flat_C base (cAt [1, 0, 1, 0, 0, 1, 1, 1] regex_flat_c) ((loopK regex_flat_ks (cAt [1, 0, 1, 0, 0] regex_flat_c) (iterL (fun t H d again => regex_flat_C base (cAt [1, 0, 1, 0, 0] regex_flat_c) (loopK regex_flat_ks (cAt [1, 0, 1, 0, 0] regex_flat_c) again ((blockK 0 ((seqK (fun _ t => regex_flat_C base (cAt [1, 1] regex_flat_c) (regex_flat_e base) (trimA regex_flat_ks (cAt [1, 1] regex_flat_c) t)) (regex_flat_e base)))))) t H d)) ((blockK 0 ((seqK (fun _ t => regex_flat_C base (cAt [1, 1] regex_flat_c) (regex_flat_e base) (trimA regex_flat_ks (cAt [1, 1] regex_flat_c) t)) (regex_flat_e base))))))) [(1, t1), (4, t4), (7, t7), (8, t8), (9, t9)] H []
theorem regex_flat_j2_eq (base : Nat) (t1 t4 t7 t8 t9 : V) (H : Heap) : regex_flat_j2 base t1 t4 t7 t8 t9 H =
 bnd (oBin .add 6 t9 (.int .i64 1)) fun v15 =>
 regex_flat_l1 base t1 t4 t7 t8 v15 H := by kernel_rfl
theorem regex_flat_l1_eq (base : Nat) (t1 t4 t7 t8 t9 : V) (H : Heap) : regex_flat_l1 base t1 t4 t7 t8 t9 H =
 bnd (oBin .lss 6 t9 t8) fun v1 =>
 cnd v1
 (bnd (oIndexPtr 6 t7 t9) fun v2 =>
 bnd (oLoad true 6 H v2) fun v3 =>
 beff (oVar H (.agg [(.int .i64 0), (.int .u64 0), (.int .u64 0), (.int .u64 0), (.int .u64 0), .nils])) fun v4 h5 =>
 beff (oStore base 6 h5 v4 v3) fun v6 h7 =>
 bnd (oFieldPtr v4 0) fun v8 =>
 bnd (oLoad false 1 h7 v8) fun v9 =>
 bnd (oBin .eql 6 v9 t1) fun v10 =>
 cnd v10
 (bnd (oFieldPtr v4 5) fun v11 =>
 bnd (oLoad false 1 h7 v11) fun v12 =>
 beff (oAppend base 6 64 true t4 v12 h7) fun v13 h14 =>
 regex_flat_j2 base t1 v13 t7 t8 t9 h14)
 (bnd (oLoad true 6 h7 v4) fun v16 =>
 bnd (oLit 6 1 (.agg [(.int .i64 0), (.int .u64 0), (.int .u64 0), (.int .u64 0), (.int .u64 0), (.vs [])]) [(0, v16)]) fun v17 =>
 beff (oAppend base 6 64 true t4 v17 h7) fun v18 h19 =>
 regex_flat_j2 base t1 v18 t7 t8 t9 h19))
 (rt true base t4 H) := (loop_eq (cAt [1, 0, 1, 0, 0] regex_flat_c) ((blockK 0 ((seqK (fun _ t => regex_flat_C base (cAt [1, 1] regex_flat_c) (regex_flat_e base) (trimA regex_flat_ks (cAt [1, 1] regex_flat_c) t)) (regex_flat_e base))))) _ H []).trans (by kernel_rfl)
def regex_flat (base : Nat) (t0 t1 : V) (H : Heap) : Option (Out × Heap) := regex_flat_C base regex_flat_c (regex_flat_e base) [(0, t0), (1, t1)] H []
theorem regex_flat_eq (base : Nat) (t0 t1 : V) (H : Heap) : regex_flat base t0 t1 H =
 bnd (oLenSl t0) fun v0 =>
 regex_flat_l1 base t1 .nils t0 v0 (.int .i64 0) H := by kernel_rfl
theorem regex_flat_E (t0 t1 : V) (H : Heap) : E n_regex_flat [t0, t1] H = regex_flat H.length t0 t1 H := (EV_at Tryd.func35 (by kernel_rfl) (by kernel_rfl) (by kernel_rfl)).trans (by kernel_rfl)

def regex_is_c : Code := bodyOf Tryd.f36
def regex_is_ks : Ks := []
def regex_is_e (base : Nat) : KC (Out × Heap) := xEnd Tryd.prog D false base 4 Tryd.f36.results.toList
def regex_is_C (base : Nat) (c : Code) (k : KC (Out × Heap)) (t : Ts) (H : Heap) (d : Ds) : Option (Out × Heap) := xC Tryd.prog base false regex_is_ks E 4 c k t H d
def regex_is (base : Nat) (t0 : V) (H : Heap) : Option (Out × Heap) := regex_is_C base regex_is_c (regex_is_e base) [(0, t0)] H []
theorem regex_is_eq (base : Nat) (t0 : V) (H : Heap) : regex_is base t0 H =
 beff (oVar H t0) fun v0 h1 =>
 bnd (oMkFn n_regex_is_1 [v0]) fun v2 =>
 rt false base v2 h1 := by kernel_rfl
theorem regex_is_E (t0 : V) (H : Heap) : E n_regex_is [t0] H = regex_is H.length t0 H := (EV_at Tryd.func36 (by kernel_rfl) (by kernel_rfl) (by kernel_rfl)).trans (by kernel_rfl)

def regex_of_c : Code := bodyOf Tryd.f37
def regex_of_ks : Ks := []
def regex_of_e (base : Nat) : KC (Out × Heap) := xEnd Tryd.prog D false base 21 Tryd.f37.results.toList
def regex_of_C (base : Nat) (c : Code) (k : KC (Out × Heap)) (t : Ts) (H : Heap) (d : Ds) : Option (Out × Heap) := xC Tryd.prog base false regex_of_ks E 21 c k t H d
def regex_of (base : Nat) (t0 t1 t2 : V) (H : Heap) : Option (Out × Heap) := regex_of_C base regex_of_c (regex_of_e base) [(0, t0), (1, t1), (2, t2)] H []
theorem regex_of_eq (base : Nat) (t0 t1 t2 : V) (H : Heap) : regex_of base t0 t1 t2 H =
 beff (oVar H (.agg [(.int .i64 0), (.int .u64 0), (.int .u64 0), (.int .u64 0), (.int .u64 0), .nils])) fun v0 h1 =>
 bnd (oLenSl t0) fun v2 =>
 bnd (oBin .eql 6 v2 (.int .i64 0)) fun v3 =>
 cnd v3
 (bnd (oBuild [(.int .i64 0), (.int .u64 0), (.int .u64 0), (.int .u64 0), (.int .u64 0), .nils] [(0, 1), (1, 4), (5, 1)] [(0, t2)]) fun v4 =>
 beff (oStore base 6 h1 v0 v4) fun v5 h6 =>
 bnd (oLoad true 6 h6 v0) fun v7 =>
 rt false base v7 h6)
 (bnd (oBin .eql 6 v2 (.int .i64 1)) fun v8 =>
 cnd v8
 (bnd (oIndexPtr 6 t0 (.int .i64 0)) fun v9 =>
 bnd (oLoad true 6 h1 v9) fun v10 =>
 beff (oStore base 6 h1 v0 v10) fun v11 h12 =>
 bnd (oLoad true 6 h12 v0) fun v13 =>
 rt false base v13 h12)
 (bnd (oBuild [(.int .i64 0), (.int .u64 0), (.int .u64 0), (.int .u64 0), (.int .u64 0), .nils] [(0, 1), (1, 4), (5, 1)] [(0, t1), (2, t0)]) fun v14 =>
 beff (oStore base 6 h1 v0 v14) fun v15 h16 =>
 bnd (oLoad true 6 h16 v0) fun v17 =>
 rt false base v17 h16)) := by kernel_rfl
theorem regex_of_E (t0 t1 t2 : V) (H : Heap) : E n_regex_of [t0, t1, t2] H = regex_of H.length t0 t1 t2 H := (EV_at Tryd.func37 (by kernel_rfl) (by kernel_rfl) (by kernel_rfl)).trans (by kernel_rfl)

def slices_DeleteFunc_api_Re_api_Re_c : Code := bodyOf Tryd.f38
def slices_DeleteFunc_api_Re_api_Re_ks : Ks := [(5, [0, 1, 5, 6]), (6, [0, 1, 5, 6])]
def slices_DeleteFunc_api_Re_api_Re_e (base : Nat) : KC (Out × Heap) := xEnd Tryd.prog D true base 42 Tryd.f38.results.toList
def slices_DeleteFunc_api_Re_api_Re_C (base : Nat) (c : Code) (k : KC (Out × Heap)) (t : Ts) (H : Heap) (d : Ds) : Option (Out × Heap) := xC Tryd.prog base true slices_DeleteFunc_api_Re_api_Re_ks E 42 c k t H d
def slices_DeleteFunc_api_Re_api_Re_l1 (base : Nat) (t0 t1 t5 t6 : V) (H : Heap) : Option (Out × Heap) :=
iterL (fun t H d again => slices_DeleteFunc_api_Re_api_Re_C base (cAt [1, 1, 1, 0, 1, 0, 0] slices_DeleteFunc_api_Re_api_Re_c) (loopK slices_DeleteFunc_api_Re_api_Re_ks (cAt [1, 1, 1, 0, 1, 0, 0] slices_DeleteFunc_api_Re_api_Re_c) again ((blockK 0 ((seqK (fun _ t => slices_DeleteFunc_api_Re_api_Re_C base (cAt [1, 1, 1, 1] slices_DeleteFunc_api_Re_api_Re_c) (slices_DeleteFunc_api_Re_api_Re_e base) (trimA slices_DeleteFunc_api_Re_api_Re_ks (cAt [1, 1, 1, 1] slices_DeleteFunc_api_Re_api_Re_c) t)) (slices_DeleteFunc_api_Re_api_Re_e base)))))) t H d) [(0, t0), (1, t1), (5, t5), (6, t6)] H []
def slices_DeleteFunc_api_Re_api_Re_j2 (base : Nat) (t0 t1 t5 t6 : V) (H : Heap) : Option (Out × Heap) :=
slices_DeleteFunc_api_Re_api_Re_C base (cAt [1, 1, 1, 0, 1, 0, 0, 1, 1] slices_DeleteFunc_api_Re_api_Re_c) ((loopK slices_DeleteFunc_api_Re_api_Re_ks (cAt [1, 1, 1, 0, 1, 0, 0] slices_DeleteFunc_api_Re_api_Re_c) (iterL (fun t H d again => slices_DeleteFunc_api_Re_api_Re_C base (cAt [1, 1, 1, 0, 1, 0, 0] slices_DeleteFunc_api_Re_api_Re_c) (loopK slices_DeleteFunc_api_Re_api_Re_ks (cAt [1, 1, 1, 0, 1, 0, 0] slices_DeleteFunc_api_Re_api_Re_c) again ((blockK 0 ((seqK (fun _ t => slices_DeleteFunc_api_Re_api_Re_C base (cAt [1, 1, 1, 1] slices_DeleteFunc_api_Re_api_Re_c) (slices_DeleteFunc_api_Re_api_Re_e base) (trimA slices_DeleteFunc_api_Re_api_Re_ks (cAt [1, 1, 1, 1] slices_DeleteFunc_api_Re_api_Re_c) t)) (slices_DeleteFunc_api_Re_api_Re_e base)))))) t H d)) ((blockK 0 ((seqK (fun _ t => slices_DeleteFunc_api_Re_api_Re_C base (cAt [1, 1, 1, 1] slices_DeleteFunc_api_Re_api_Re_c) (slices_DeleteFunc_api_Re_api_Re_e base) (trimA slices_DeleteFunc_api_Re_api_Re_ks (cAt [1, 1, 1, 1] slices_DeleteFunc_api_Re_api_Re_c) t)) (slices_DeleteFunc_api_Re_api_Re_e base))))))) [(0, t0), (1, t1), (5, t5), (6, t6)] H []
theorem slices_DeleteFunc_api_Re_api_Re_j2_eq (base : Nat) (t0 t1 t5 t6 : V) (H : Heap) : slices_DeleteFunc_api_Re_api_Re_j2 base t0 t1 t5 t6 H =
 bnd (oBin .add 6 t6 (.int .i64 1)) fun v21 =>
 slices_DeleteFunc_api_Re_api_Re_l1 base t0 t1 t5 v21 H := by kernel_rfl
theorem slices_DeleteFunc_api_Re_api_Re_l1_eq (base : Nat) (t0 t1 t5 t6 : V) (H : Heap) : slices_DeleteFunc_api_Re_api_Re_l1 base t0 t1 t5 t6 H =
 bnd (oLenSl t0) fun v4 =>
 bnd (oBin .lss 6 t6 v4) fun v5 =>
 cnd v5
 (bnd (oIndexPtr 6 t0 t6) fun v6 =>
 bnd (oLoad true 6 H v6) fun v7 =>
 beff (oVar H (.agg [(.int .i64 0), (.int .u64 0), (.int .u64 0), (.int .u64 0), (.int .u64 0), .nils])) fun v8 h9 =>
 beff (oStore base 6 h9 v8 v7) fun v10 h11 =>
 bnd (oLoad true 6 h11 v8) fun v12 =>
 bcall (oDyn E t1 [v12] h11) (fun v13 h14 =>
 bnd (oUn .not v13) fun v15 =>
 cnd v15
 (bnd (oLoad true 6 h14 v8) fun v16 =>
 bnd (oIndexPtr 6 t0 t5) fun v17 =>
 beff (oStore base 6 h14 v17 v16) fun v18 h19 =>
 bnd (oBin .add 6 t5 (.int .i64 1)) fun v20 =>
 slices_DeleteFunc_api_Re_api_Re_j2 base t0 t1 v20 t6 h19)
 (slices_DeleteFunc_api_Re_api_Re_j2 base t0 t1 t5 t6 h14))
 (fun v13 h14 => pn true base v13 h14))
 (bnd (oSlice 6 t0 (some t5) none none) fun v22 =>
 beff (oClear base 6 [(.int .i64 0), (.int .u64 0), (.int .u64 0), (.int .u64 0), (.int .u64 0), .nils] v22 H) fun v23 h24 =>
 bnd (oSlice 6 t0 none (some t5) none) fun v25 =>
 rt true base v25 h24) := (loop_eq (cAt [1, 1, 1, 0, 1, 0, 0] slices_DeleteFunc_api_Re_api_Re_c) ((blockK 0 ((seqK (fun _ t => slices_DeleteFunc_api_Re_api_Re_C base (cAt [1, 1, 1, 1] slices_DeleteFunc_api_Re_api_Re_c) (slices_DeleteFunc_api_Re_api_Re_e base) (trimA slices_DeleteFunc_api_Re_api_Re_ks (cAt [1, 1, 1, 1] slices_DeleteFunc_api_Re_api_Re_c) t)) (slices_DeleteFunc_api_Re_api_Re_e base))))) _ H []).trans (by kernel_rfl)
def slices_DeleteFunc_api_Re_api_Re (base : Nat) (t0 t1 : V) (H : Heap) : Option (Out × Heap) := slices_DeleteFunc_api_Re_api_Re_C base slices_DeleteFunc_api_Re_api_Re_c (slices_DeleteFunc_api_Re_api_Re_e base) [(0, t0), (1, t1)] H []
theorem slices_DeleteFunc_api_Re_api_Re_eq (base : Nat) (t0 t1 : V) (H : Heap) : slices_DeleteFunc_api_Re_api_Re base t0 t1 H =
 bcall (E n_slices_IndexFunc_api_Re_api_Re [t0, t1] H) (fun v0 h1 =>
 bnd (oBin .eql 6 v0 (.int .i64 (-1))) fun v2 =>
 cnd v2
 (rt true base t0 h1)
 (bnd (oBin .add 6 v0 (.int .i64 1)) fun v3 =>
 slices_DeleteFunc_api_Re_api_Re_l1 base t0 t1 v0 v3 h1))
 (fun v0 h1 => pn true base v0 h1) := by kernel_rfl
theorem slices_DeleteFunc_api_Re_api_Re_E (t0 t1 : V) (H : Heap) : E n_slices_DeleteFunc_api_Re_api_Re [t0, t1] H = slices_DeleteFunc_api_Re_api_Re H.length t0 t1 H := (EV_at Tryd.func38 (by kernel_rfl) (by kernel_rfl) (by kernel_rfl)).trans (by kernel_rfl)

def byteset_Join_c : Code := bodyOf Tryd.f39
def byteset_Join_ks : Ks := [(2, [2, 4, 7, 8])]
def byteset_Join_e (base : Nat) : KC (Out × Heap) := xEnd Tryd.prog D false base 20 Tryd.f39.results.toList
def byteset_Join_C (base : Nat) (c : Code) (k : KC (Out × Heap)) (t : Ts) (H : Heap) (d : Ds) : Option (Out × Heap) := xC Tryd.prog base false byteset_Join_ks E 20 c k t H d
def byteset_Join_l1 (base : Nat) (t2 t4 t7 t8 : V) (H : Heap) : Option (Out × Heap) :=
iterL (fun t H d again => byteset_Join_C base (cAt [1, 0, 1, 0, 0] byteset_Join_c) (loopK byteset_Join_ks (cAt [1, 0, 1, 0, 0] byteset_Join_c) again ((blockK 0 ((seqK (fun _ t => byteset_Join_C base (cAt [1, 1] byteset_Join_c) (byteset_Join_e base) (trimA byteset_Join_ks (cAt [1, 1] byteset_Join_c) t)) (byteset_Join_e base)))))) t H d) [(2, t2), (4, t4), (7, t7), (8, t8)] H []
theorem byteset_Join_l1_eq (base : Nat) (t2 t4 t7 t8 : V) (H : Heap) : byteset_Join_l1 base t2 t4 t7 t8 H =
 bnd (oBin .lss 6 t8 (.int .i64 4)) fun v7 =>
 cnd v7
 (bnd (oIndexA 4 false 1 t7 t8) fun v8 =>
 bnd (oIndexPtrA 4 1 t2 t8) fun v9 =>
 bnd (oLoad false 1 H v9) fun v10 =>
 bnd (oBin .or 6 v10 v8) fun v11 =>
 bnd (oIndexPtrA 4 1 t2 t8) fun v12 =>
 beff (oStore base 1 H v12 v11) fun v13 h14 =>
 bnd (oBin .add 6 t8 (.int .i64 1)) fun v15 =>
 byteset_Join_l1 base t2 t4 t7 v15 h14)
 (bnd (oLoad true 4 H t2) fun v16 =>
 beff (oStore base 4 H t4 v16) fun v17 h18 =>
 bnd (oLoad true 4 h18 t4) fun v19 =>
 rt false base v19 h18) := (loop_eq (cAt [1, 0, 1, 0, 0] byteset_Join_c) ((blockK 0 ((seqK (fun _ t => byteset_Join_C base (cAt [1, 1] byteset_Join_c) (byteset_Join_e base) (trimA byteset_Join_ks (cAt [1, 1] byteset_Join_c) t)) (byteset_Join_e base))))) _ H []).trans (by kernel_rfl)
def byteset_Join (base : Nat) (t0 t1 : V) (H : Heap) : Option (Out × Heap) := byteset_Join_C base byteset_Join_c (byteset_Join_e base) [(0, t0), (1, t1)] H []
theorem byteset_Join_eq (base : Nat) (t0 t1 : V) (H : Heap) : byteset_Join base t0 t1 H =
 beff (oVar H t0) fun v0 h1 =>
 beff (oVar h1 t1) fun v2 h3 =>
 beff (oVar h3 (.agg [(.int .u64 0), (.int .u64 0), (.int .u64 0), (.int .u64 0)])) fun v4 h5 =>
 bnd (oLoad true 4 h5 v2) fun v6 =>
 byteset_Join_l1 base v0 v4 v6 (.int .i64 0) h5 := by kernel_rfl
theorem byteset_Join_E (t0 t1 : V) (H : Heap) : E n_byteset_Join [t0, t1] H = byteset_Join H.length t0 t1 H := (EV_at Tryd.func39 (by kernel_rfl) (by kernel_rfl) (by kernel_rfl)).trans (by kernel_rfl)

def slices_SortStableFunc_api_Re_api_Re_c : Code := bodyOf Tryd.f41
def slices_SortStableFunc_api_Re_api_Re_ks : Ks := []
def slices_SortStableFunc_api_Re_api_Re_e (base : Nat) : KC (Out × Heap) := xEnd Tryd.prog D false base 9 Tryd.f41.results.toList
def slices_SortStableFunc_api_Re_api_Re_C (base : Nat) (c : Code) (k : KC (Out × Heap)) (t : Ts) (H : Heap) (d : Ds) : Option (Out × Heap) := xC Tryd.prog base true slices_SortStableFunc_api_Re_api_Re_ks E 9 c k t H d
def slices_SortStableFunc_api_Re_api_Re (base : Nat) (t0 t1 : V) (H : Heap) : Option (Out × Heap) := slices_SortStableFunc_api_Re_api_Re_C base slices_SortStableFunc_api_Re_api_Re_c (slices_SortStableFunc_api_Re_api_Re_e base) [(0, t0), (1, t1)] H []
theorem slices_SortStableFunc_api_Re_api_Re_eq (base : Nat) (t0 t1 : V) (H : Heap) : slices_SortStableFunc_api_Re_api_Re base t0 t1 H =
 bnd (oLenSl t0) fun v0 =>
 bcall (E n_slices_stableCmpFunc_api_Re [t0, v0, t1] H) (fun v1 h2 =>
 rt false base (.tup []) h2)
 (fun v1 h2 => pn false base v1 h2) := by kernel_rfl
theorem slices_SortStableFunc_api_Re_api_Re_E (t0 t1 : V) (H : Heap) : E n_slices_SortStableFunc_api_Re_api_Re [t0, t1] H = slices_SortStableFunc_api_Re_api_Re H.length t0 t1 H := (EV_at Tryd.func41 (by kernel_rfl) (by kernel_rfl) (by kernel_rfl)).trans (by kernel_rfl)

def regex_Either_1_c : Code := bodyOf Tryd.f42
def regex_Either_1_ks : Ks := []
def regex_Either_1_e (base : Nat) : KC (Out × Heap) := xEnd Tryd.prog D false base 10 Tryd.f42.results.toList
def regex_Either_1_C (base : Nat) (c : Code) (k : KC (Out × Heap)) (t : Ts) (H : Heap) (d : Ds) : Option (Out × Heap) := xC Tryd.prog base false regex_Either_1_ks E 10 c k t H d
def regex_Either_1 (base : Nat) (t0 t1 : V) (H : Heap) : Option (Out × Heap) := regex_Either_1_C base regex_Either_1_c (regex_Either_1_e base) [(0, t0), (1, t1)] H []
theorem regex_Either_1_eq (base : Nat) (t0 t1 : V) (H : Heap) : regex_Either_1 base t0 t1 H =
 beff (oVar H t0) fun v0 h1 =>
 beff (oVar h1 t1) fun v2 h3 =>
 bnd (oLoad true 6 h3 v0) fun v4 =>
 bcall (E n_regex_Text [v4] h3) (fun v5 h6 =>
 bnd (bnd (oLoad true 6 h6 v2) fun v7 => sch (sam (oLoad true 6 h3 v2) v7) (
 some v7)) fun v7 =>
 bcall (E n_regex_Text [v7] h6) (fun v8 h9 =>
 bcall (E n_strings_Compare [v5, v8] h9) (fun v10 h11 =>
 rt false base v10 h11)
 (fun v10 h11 => pn false base v10 h11))
 (fun v8 h9 => pn false base v8 h9))
 (fun v5 h6 => sch (tlb (oLoad true 6 h3 v2) fun v12 => true) (pn false base v5 h6)) := by kernel_rfl
theorem regex_Either_1_E (t0 t1 : V) (H : Heap) : E n_regex_Either_1 [t0, t1] H = regex_Either_1 H.length t0 t1 H := (EV_at Tryd.func42 (by kernel_rfl) (by kernel_rfl) (by kernel_rfl)).trans (by kernel_rfl)
end
end Go.Proofs.YtjnkigaiogjfcaaDoor
end

