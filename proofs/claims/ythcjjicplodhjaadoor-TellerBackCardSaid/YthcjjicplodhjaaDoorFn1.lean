/- Fn1: a part of the proof that each law of this seat answers true at every input. No condition. -/
import Derived.Test.YthcjjicplodhjaaDoorHint
import Derived.KernelRfl
set_option linter.unusedVariables false
set_option linter.unusedSimpArgs false
set_option maxRecDepth 20000
section
/- Printed: what functions do. -/
namespace Go.Proofs.YthcjjicplodhjaaDoor
open Go Go.Ev
set_option linter.unusedVariables false
noncomputable section

def law04_TellerBack_c : Code := bodyOf Tryd.f6
def law04_TellerBack_ks : Ks := []
def law04_TellerBack_e (base : Nat) : KC (Out × Heap) := xEnd Tryd.prog D false base 38 Tryd.f6.results.toList
def law04_TellerBack_C (base : Nat) (c : Code) (k : KC (Out × Heap)) (t : Ts) (H : Heap) (d : Ds) : Option (Out × Heap) := xC Tryd.prog base false law04_TellerBack_ks E 38 c k t H d
def law04_TellerBack (base : Nat) (t0 : V) (H : Heap) : Option (Out × Heap) := law04_TellerBack_C base law04_TellerBack_c (law04_TellerBack_e base) [(0, t0)] H []
theorem law04_TellerBack_eq (base : Nat) (t0 : V) (H : Heap) : law04_TellerBack base t0 H =
 bcall (E n_law04_awake [] H) (fun v0 h1 =>
 bnd (oUn .not v0) fun v2 =>
 cnd v2
 (rt false base (.bool false) h1)
 (bcall (E n_law04_Made [t0] h1) (fun v3 h4 =>
 bcall (E n_teller_Tell [v3] h4) (fun v5 h6 =>
 bnd (oExtract v5 0) fun v7 =>
 bnd (oExtract v5 1) fun v8 =>
 bcall (E n_ref03_Read [v7] h6) (fun v9 h10 =>
 bnd (oExtract v9 0) fun v11 =>
 bnd (oExtract v9 1) fun v12 =>
 bnd (gua v0 true (oMove v8) (some (.tup []))) fun v13 =>
 bnd (gua v0 true (oBin .eql 6 v13 (.int .i64 0)) (some (.tup []))) fun v14 =>
 bnd (oPick v0 v14 (.bool false)) fun v15 =>
 bnd (gua v15 true (oMove v12) (some (.tup []))) fun v16 =>
 bnd (gua v15 true (oBin .eql 6 v16 (.int .i64 0)) (some (.tup []))) fun v17 =>
 bnd (oPick v15 v17 (.bool false)) fun v18 =>
 bnd (gua v18 true (oMove v11) (some (.tup []))) fun v19 =>
 bnd (gua v18 true (oMove v3) (some (.tup []))) fun v20 =>
 bcall (gua v18 true (E n_ref03_SameLines [v19, v20] h10) (some (.ret (.tup []), h10))) (fun v21 h22 =>
 bnd (oPick v18 v21 (.bool false)) fun v23 =>
 rt false base v23 h22)
 (fun v21 h22 => pn false base v21 h22))
 (fun v9 h10 => pn false base v9 h10))
 (fun v5 h6 => pn false base v5 h6))
 (fun v3 h4 => pn false base v3 h4)))
 (fun v0 h1 => pn false base v0 h1) := by kernel_rfl
theorem law04_TellerBack_E (t0 : V) (H : Heap) : E n_law04_TellerBack [t0] H = law04_TellerBack H.length t0 H := (EV_at Tryd.func6 (by kernel_rfl) (by kernel_rfl) (by kernel_rfl)).trans (by kernel_rfl)

def law04_awake_c : Code := bodyOf Tryd.f9
def law04_awake_ks : Ks := []
def law04_awake_e (base : Nat) : KC (Out × Heap) := xEnd Tryd.prog D false base 50 Tryd.f9.results.toList
def law04_awake_C (base : Nat) (c : Code) (k : KC (Out × Heap)) (t : Ts) (H : Heap) (d : Ds) : Option (Out × Heap) := xC Tryd.prog base false law04_awake_ks E 50 c k t H d
def law04_awake (base : Nat) (H : Heap) : Option (Out × Heap) := law04_awake_C base law04_awake_c (law04_awake_e base) [] H []
theorem law04_awake_eq (base : Nat) (H : Heap) : law04_awake base  H =
 bnd (oBuild [(.int .i64 0), (.str []), .nils, (.int .i64 0), (.int .i64 0), .nils] [(0, 1), (1, 1), (2, 1), (3, 1), (4, 1), (5, 1)] [(0, (.int .i64 4)), (1, (.str [98]))]) fun v0 =>
 bnd (oLit 6 1 (.agg [(.int .i64 0), (.str []), (.vs []), (.int .i64 0), (.int .i64 0), (.vs [])]) [(0, v0)]) fun v1 =>
 bnd (oBuild [(.int .i64 0), (.str []), .nils, (.int .i64 0), (.int .i64 0), .nils] [(0, 1), (1, 1), (2, 1), (3, 1), (4, 1), (5, 1)] [(0, (.int .i64 3)), (3, (.int .i64 1)), (4, (.int .i64 2)), (5, v1)]) fun v2 =>
 beff (oVar H (.agg [(.int .i64 0), (.str []), .nils, (.int .i64 0), (.int .i64 0), .nils])) fun v3 h4 =>
 beff (oStore base 6 h4 v3 v2) fun v5 h6 =>
 bnd (oLoad true 6 h6 v3) fun v7 =>
 bnd (oBuild [(.int .i64 0), (.str []), .nils, (.int .i64 0), (.int .i64 0), .nils] [(0, 1), (1, 1), (2, 1), (3, 1), (4, 1), (5, 1)] [(0, (.int .i64 5)), (1, (.str [99]))]) fun v8 =>
 bnd (oLit 6 2 (.agg [(.int .i64 0), (.str []), (.vs []), (.int .i64 0), (.int .i64 0), (.vs [])]) [(0, v7), (1, v8)]) fun v9 =>
 bnd (oBuild [(.int .i64 0), (.str []), .nils, (.int .i64 0), (.int .i64 0), .nils] [(0, 1), (1, 1), (2, 1), (3, 1), (4, 1), (5, 1)] [(0, (.int .i64 1)), (5, v9)]) fun v10 =>
 beff (oVar h6 (.agg [(.int .i64 0), (.str []), .nils, (.int .i64 0), (.int .i64 0), .nils])) fun v11 h12 =>
 beff (oStore base 6 h12 v11 v10) fun v13 h14 =>
 bnd (oLoad true 6 h14 v11) fun v15 =>
 bnd (oBuild [(.str []), (.bool false), (.int .i64 0), (.str []), .nils, (.int .i64 0), (.int .i64 0), .nils] [(0, 1), (1, 1), (2, 6)] [(0, (.str [97])), (2, v15)]) fun v16 =>
 bnd (oLit 8 1 (.agg [(.str []), (.bool false), (.int .i64 0), (.str []), (.vs []), (.int .i64 0), (.int .i64 0), (.vs [])]) [(0, v16)]) fun v17 =>
 bcall (E n_teller_Tell [v17] h14) (fun v18 h19 =>
 bnd (oExtract v18 0) fun v20 =>
 bnd (oExtract v18 1) fun v21 =>
 bnd (oLoad true 6 h19 v11) fun v22 =>
 bnd (oBuild [(.str []), (.bool false), (.int .i64 0), (.str []), .nils, (.int .i64 0), (.int .i64 0), .nils] [(0, 1), (1, 1), (2, 6)] [(0, (.str [65])), (2, v22)]) fun v23 =>
 bnd (oLit 8 1 (.agg [(.str []), (.bool false), (.int .i64 0), (.str []), (.vs []), (.int .i64 0), (.int .i64 0), (.vs [])]) [(0, v23)]) fun v24 =>
 bcall (E n_teller_Tell [v24] h19) (fun v25 h26 =>
 bnd (oExtract v25 0) fun v27 =>
 bnd (oExtract v25 1) fun v28 =>
 bnd (oBin .eql 6 v21 (.int .i64 0)) fun v29 =>
 bnd (gua v29 true (oMove v20) (some (.tup []))) fun v30 =>
 bnd (gua v29 true (oBin .eql 6 v30 (.str [97, 32, 61, 32, 49, 42, 50, 98, 32, 47, 32, 34, 99, 34, 10])) (some (.tup []))) fun v31 =>
 bnd (oPick v29 v31 (.bool false)) fun v32 =>
 bnd (gua v32 true (oMove v28) (some (.tup []))) fun v33 =>
 bnd (gua v32 true (oBin .eql 6 v33 (.int .i64 1)) (some (.tup []))) fun v34 =>
 bnd (oPick v32 v34 (.bool false)) fun v35 =>
 bnd (gua v35 true (oLoad true 6 h26 v11) (some (.tup []))) fun v36 =>
 bcall (gua v35 true (E n_teller_Right [v36] h26) (some (.ret (.tup []), h26))) (fun v37 h38 =>
 bnd (oPick v35 v37 (.bool false)) fun v39 =>
 bnd (gua v39 true (oBuild [(.int .i64 0), (.str []), .nils, (.int .i64 0), (.int .i64 0), .nils] [(0, 1), (1, 1), (2, 1), (3, 1), (4, 1), (5, 1)] []) (some (.tup []))) fun v40 =>
 bcall (gua v39 true (E n_teller_Right [v40] h38) (some (.ret (.tup []), h38))) (fun v41 h42 =>
 bnd (gua v39 true (oUn .not v41) (some (.tup []))) fun v43 =>
 bnd (oPick v39 v43 (.bool false)) fun v44 =>
 bcall (gua v44 true (E n_teller_Name [(.str [97, 45, 49])] h42) (some (.ret (.tup []), h42))) (fun v45 h46 =>
 bnd (oPick v44 v45 (.bool false)) fun v47 =>
 rt false base v47 h46)
 (fun v45 h46 => pn false base v45 h46))
 (fun v41 h42 => pn false base v41 h42))
 (fun v37 h38 => pn false base v37 h38))
 (fun v25 h26 => pn false base v25 h26))
 (fun v18 h19 => pn false base v18 h19) := by kernel_rfl
theorem law04_awake_E (H : Heap) : E n_law04_awake [] H = law04_awake H.length  H := (EV_at Tryd.func9 (by kernel_rfl) (by kernel_rfl) (by kernel_rfl)).trans (by kernel_rfl)

def law04_Made_c : Code := bodyOf Tryd.f12
def law04_Made_ks : Ks := [(4, [3, 4, 5])]
def law04_Made_e (base : Nat) : KC (Out × Heap) := xEnd Tryd.prog D false base 34 Tryd.f12.results.toList
def law04_Made_C (base : Nat) (c : Code) (k : KC (Out × Heap)) (t : Ts) (H : Heap) (d : Ds) : Option (Out × Heap) := xC Tryd.prog base false law04_Made_ks E 34 c k t H d
def law04_Made_l1 (base : Nat) (t3 t4 t5 : V) (H : Heap) : Option (Out × Heap) :=
iterL (fun t H d again => law04_Made_C base (cAt [1, 1, 1, 0, 1, 0, 0] law04_Made_c) (loopK law04_Made_ks (cAt [1, 1, 1, 0, 1, 0, 0] law04_Made_c) again ((blockK 0 ((seqK (fun _ t => law04_Made_C base (cAt [1, 1, 1, 1] law04_Made_c) (law04_Made_e base) (trimA law04_Made_ks (cAt [1, 1, 1, 1] law04_Made_c) t)) (law04_Made_e base)))))) t H d) [(3, t3), (4, t4), (5, t5)] H []
theorem law04_Made_l1_eq (base : Nat) (t3 t4 t5 : V) (H : Heap) : law04_Made_l1 base t3 t4 t5 H =
 bnd (oBin .gtr 6 t5 (.int .i64 0)) fun v6 =>
 cnd v6
 (bnd (oLit 1 5 (.str []) [(0, (.str [97])), (1, (.str [98])), (2, (.str [99])), (3, (.str [119, 111, 114, 100])), (4, (.str [120, 45, 49]))]) fun v7 =>
 bcall (E n_law04_picker_pick [t3, (.int .i64 5)] H) (fun v8 h9 =>
 bnd (oIndexPtr 1 v7 v8) fun v10 =>
 bnd (oLoad false 1 h9 v10) fun v11 =>
 bcall (E n_law04_picker_pick [t3, (.int .i64 5)] h9) (fun v12 h13 =>
 sch (sam (oLoad false 1 h13 v10) v11) (
 bnd (oBin .eql 6 v12 (.int .i64 4)) fun v14 =>
 bnd (oBuild [(.str []), (.bool false), (.int .i64 0), (.str []), .nils, (.int .i64 0), (.int .i64 0), .nils] [(0, 1), (1, 1), (2, 6)] [(0, v11), (1, v14)]) fun v15 =>
 beff (oVar h13 (.agg [(.str []), (.bool false), (.int .i64 0), (.str []), .nils, (.int .i64 0), (.int .i64 0), .nils])) fun v16 h17 =>
 sch (sam (oLoad false 1 h17 v10) v11) (
 beff (oStore base 8 h17 v16 v15) fun v18 h19 =>
 bcall (E n_law04_picker_expr [t3, (.int .i64 3)] h19) (fun v20 h21 =>
 bnd (oFieldPtr v16 2) fun v22 =>
 beff (oStore base 6 h21 v22 v20) fun v23 h24 =>
 bnd (oLoad true 8 h24 v16) fun v25 =>
 bnd (oLit 8 1 (.agg [(.str []), (.bool false), (.int .i64 0), (.str []), (.vs []), (.int .i64 0), (.int .i64 0), (.vs [])]) [(0, v25)]) fun v26 =>
 beff (oAppend base 8 112 true t4 v26 h24) fun v27 h28 =>
 bnd (oBin .sub 6 t5 (.int .i64 1)) fun v29 =>
 law04_Made_l1 base t3 v27 v29 h28)
 (fun v20 h21 => pn false base v20 h21))))
 (fun v12 h13 => sch (false) (pn false base v12 h13)))
 (fun v8 h9 => sch (tlb (oMove t3) fun v31 => false) (pn false base v8 h9)))
 (rt false base t4 H) := (loop_eq (cAt [1, 1, 1, 0, 1, 0, 0] law04_Made_c) ((blockK 0 ((seqK (fun _ t => law04_Made_C base (cAt [1, 1, 1, 1] law04_Made_c) (law04_Made_e base) (trimA law04_Made_ks (cAt [1, 1, 1, 1] law04_Made_c) t)) (law04_Made_e base))))) _ H []).trans (by kernel_rfl)
def law04_Made (base : Nat) (t0 : V) (H : Heap) : Option (Out × Heap) := law04_Made_C base law04_Made_c (law04_Made_e base) [(0, t0)] H []
theorem law04_Made_eq (base : Nat) (t0 : V) (H : Heap) : law04_Made base t0 H =
 bnd (oBuild [.nils, (.int .i64 0)] [(0, 1), (1, 1)] [(0, t0)]) fun v0 =>
 beff (oVar H v0) fun v1 h2 =>
 bcall (E n_law04_picker_pick [v1, (.int .i64 5)] h2) (fun v3 h4 =>
 bnd (oBin .add 6 (.int .i64 1) v3) fun v5 =>
 law04_Made_l1 base v1 .nils v5 h4)
 (fun v3 h4 => pn false base v3 h4) := by kernel_rfl
theorem law04_Made_E (t0 : V) (H : Heap) : E n_law04_Made [t0] H = law04_Made H.length t0 H := (EV_at Tryd.func12 (by kernel_rfl) (by kernel_rfl) (by kernel_rfl)).trans (by kernel_rfl)

def ref03_Read_c : Code := bodyOf Tryd.f14
def ref03_Read_ks : Ks := [(5, [0, 4, 5]), (7, [0, 4, 5, 6])]
def ref03_Read_e (base : Nat) : KC (Out × Heap) := xEnd Tryd.prog D false base 79 Tryd.f14.results.toList
def ref03_Read_C (base : Nat) (c : Code) (k : KC (Out × Heap)) (t : Ts) (H : Heap) (d : Ds) : Option (Out × Heap) := xC Tryd.prog base false ref03_Read_ks E 79 c k t H d
def ref03_Read_l1 (base : Nat) (t0 t4 t5 : V) (H : Heap) : Option (Out × Heap) :=
iterL (fun t H d again => ref03_Read_C base (cAt [1, 1, 1, 1, 0, 0, 0] ref03_Read_c) (loopK ref03_Read_ks (cAt [1, 1, 1, 1, 0, 0, 0] ref03_Read_c) again ((blockK 0 ((seqK (fun _ t => ref03_Read_C base (cAt [1, 1, 1, 1, 1] ref03_Read_c) (ref03_Read_e base) (trimA ref03_Read_ks (cAt [1, 1, 1, 1, 1] ref03_Read_c) t)) (ref03_Read_e base)))))) t H d) [(0, t0), (4, t4), (5, t5)] H []
def ref03_Read_l2 (base : Nat) (t0 t4 t5 t6 : V) (H : Heap) : Option (Out × Heap) :=
iterL (fun t H d again => ref03_Read_C base (cAt [1, 1, 1, 1, 0, 0, 0, 1, 0, 1, 0, 0, 0] ref03_Read_c) (loopK ref03_Read_ks (cAt [1, 1, 1, 1, 0, 0, 0, 1, 0, 1, 0, 0, 0] ref03_Read_c) again ((blockK 2 ((seqK (fun _ t => ref03_Read_C base (cAt [1, 1, 1, 1, 0, 0, 0, 1, 0, 1, 1] ref03_Read_c) ((blockK 1 ((loopK ref03_Read_ks (cAt [1, 1, 1, 1, 0, 0, 0] ref03_Read_c) (iterL (fun t H d again => ref03_Read_C base (cAt [1, 1, 1, 1, 0, 0, 0] ref03_Read_c) (loopK ref03_Read_ks (cAt [1, 1, 1, 1, 0, 0, 0] ref03_Read_c) again ((blockK 0 ((seqK (fun _ t => ref03_Read_C base (cAt [1, 1, 1, 1, 1] ref03_Read_c) (ref03_Read_e base) (trimA ref03_Read_ks (cAt [1, 1, 1, 1, 1] ref03_Read_c) t)) (ref03_Read_e base)))))) t H d)) ((blockK 0 ((seqK (fun _ t => ref03_Read_C base (cAt [1, 1, 1, 1, 1] ref03_Read_c) (ref03_Read_e base) (trimA ref03_Read_ks (cAt [1, 1, 1, 1, 1] ref03_Read_c) t)) (ref03_Read_e base))))))))) (trimA ref03_Read_ks (cAt [1, 1, 1, 1, 0, 0, 0, 1, 0, 1, 1] ref03_Read_c) t)) ((blockK 1 ((loopK ref03_Read_ks (cAt [1, 1, 1, 1, 0, 0, 0] ref03_Read_c) (iterL (fun t H d again => ref03_Read_C base (cAt [1, 1, 1, 1, 0, 0, 0] ref03_Read_c) (loopK ref03_Read_ks (cAt [1, 1, 1, 1, 0, 0, 0] ref03_Read_c) again ((blockK 0 ((seqK (fun _ t => ref03_Read_C base (cAt [1, 1, 1, 1, 1] ref03_Read_c) (ref03_Read_e base) (trimA ref03_Read_ks (cAt [1, 1, 1, 1, 1] ref03_Read_c) t)) (ref03_Read_e base)))))) t H d)) ((blockK 0 ((seqK (fun _ t => ref03_Read_C base (cAt [1, 1, 1, 1, 1] ref03_Read_c) (ref03_Read_e base) (trimA ref03_Read_ks (cAt [1, 1, 1, 1, 1] ref03_Read_c) t)) (ref03_Read_e base)))))))))))))) t H d) [(0, t0), (4, t4), (5, t5), (6, t6)] H []
theorem ref03_Read_l2_eq (base : Nat) (t0 t4 t5 t6 : V) (H : Heap) : ref03_Read_l2 base t0 t4 t5 t6 H =
 bcall (E n_ref03_reader_at [t4, (.int .i64 0)] H) (fun v19 h20 =>
 bcall (E n_ref03_blank [v19] h20) (fun v21 h22 =>
 cnd v21
 (bnd (oNil t4) fun v23 =>
 bnd (oFieldPtr v23 1) fun v24 =>
 bnd (oLoad false 1 h22 v24) fun v25 =>
 bnd (oBin .add 6 v25 (.int .i64 1)) fun v26 =>
 bnd (oNil t4) fun v27 =>
 bnd (oFieldPtr v27 1) fun v28 =>
 beff (oStore base 1 h22 v28 v26) fun v29 h30 =>
 ref03_Read_l2 base t0 t4 t5 t6 h30)
 (bcall (E n_ref03_reader_ends [t4] h22) (fun v31 h32 =>
 bnd (oBin .geq 6 v31 (.int .i64 0)) fun v33 =>
 cnd v33
 (bnd (oNil t4) fun v34 =>
 bnd (oFieldPtr v34 1) fun v35 =>
 bnd (oLoad false 1 h32 v35) fun v36 =>
 bnd (oBin .add 6 v36 v31) fun v37 =>
 bnd (oNil t4) fun v38 =>
 bnd (oFieldPtr v38 1) fun v39 =>
 beff (oStore base 1 h32 v39 v37) fun v40 h41 =>
 ref03_Read_l1 base t0 t4 t5 h41)
 (bnd (oNil t4) fun v42 =>
 bnd (oFieldPtr v42 1) fun v43 =>
 beff (oStore base 1 h32 v43 t6) fun v44 h45 =>
 bcall (E n_ref03_reader_rule [t4] h45) (fun v46 h47 =>
 bnd (oLit 8 1 (.agg [(.str []), (.bool false), (.int .i64 0), (.str []), (.vs []), (.int .i64 0), (.int .i64 0), (.vs [])]) [(0, v46)]) fun v48 =>
 beff (oAppend base 8 112 true t5 v48 h47) fun v49 h50 =>
 bnd (oLenSl v49) fun v51 =>
 bnd (oBin .gtr 6 v51 (.int .i64 500)) fun v52 =>
 cnd v52
 (bcall (E n_ref03_reader_fail [t4, (.int .i64 2)] h50) (fun v53 h54 =>
 ref03_Read_l1 base t0 t4 v49 h54)
 (fun v53 h54 => pn false base v53 h54))
 (ref03_Read_l1 base t0 t4 v49 h50))
 (fun v46 h47 => pn false base v46 h47)))
 (fun v31 h32 => pn false base v31 h32)))
 (fun v21 h22 => pn false base v21 h22))
 (fun v19 h20 => pn false base v19 h20) := (loop_eq (cAt [1, 1, 1, 1, 0, 0, 0, 1, 0, 1, 0, 0, 0] ref03_Read_c) ((blockK 2 ((seqK (fun _ t => ref03_Read_C base (cAt [1, 1, 1, 1, 0, 0, 0, 1, 0, 1, 1] ref03_Read_c) ((blockK 1 ((loopK ref03_Read_ks (cAt [1, 1, 1, 1, 0, 0, 0] ref03_Read_c) (iterL (fun t H d again => ref03_Read_C base (cAt [1, 1, 1, 1, 0, 0, 0] ref03_Read_c) (loopK ref03_Read_ks (cAt [1, 1, 1, 1, 0, 0, 0] ref03_Read_c) again ((blockK 0 ((seqK (fun _ t => ref03_Read_C base (cAt [1, 1, 1, 1, 1] ref03_Read_c) (ref03_Read_e base) (trimA ref03_Read_ks (cAt [1, 1, 1, 1, 1] ref03_Read_c) t)) (ref03_Read_e base)))))) t H d)) ((blockK 0 ((seqK (fun _ t => ref03_Read_C base (cAt [1, 1, 1, 1, 1] ref03_Read_c) (ref03_Read_e base) (trimA ref03_Read_ks (cAt [1, 1, 1, 1, 1] ref03_Read_c) t)) (ref03_Read_e base))))))))) (trimA ref03_Read_ks (cAt [1, 1, 1, 1, 0, 0, 0, 1, 0, 1, 1] ref03_Read_c) t)) ((blockK 1 ((loopK ref03_Read_ks (cAt [1, 1, 1, 1, 0, 0, 0] ref03_Read_c) (iterL (fun t H d again => ref03_Read_C base (cAt [1, 1, 1, 1, 0, 0, 0] ref03_Read_c) (loopK ref03_Read_ks (cAt [1, 1, 1, 1, 0, 0, 0] ref03_Read_c) again ((blockK 0 ((seqK (fun _ t => ref03_Read_C base (cAt [1, 1, 1, 1, 1] ref03_Read_c) (ref03_Read_e base) (trimA ref03_Read_ks (cAt [1, 1, 1, 1, 1] ref03_Read_c) t)) (ref03_Read_e base)))))) t H d)) ((blockK 0 ((seqK (fun _ t => ref03_Read_C base (cAt [1, 1, 1, 1, 1] ref03_Read_c) (ref03_Read_e base) (trimA ref03_Read_ks (cAt [1, 1, 1, 1, 1] ref03_Read_c) t)) (ref03_Read_e base))))))))))))) _ H []).trans (by kernel_rfl)
theorem ref03_Read_l1_eq (base : Nat) (t0 t4 t5 : V) (H : Heap) : ref03_Read_l1 base t0 t4 t5 H =
 bnd (oNil t4) fun v5 =>
 bnd (oFieldPtr v5 1) fun v6 =>
 bnd (oLoad false 1 H v6) fun v7 =>
 bnd (oLenStr t0) fun v8 =>
 bnd (oBin .lss 6 v7 v8) fun v9 =>
 bnd (gua v9 true (oMove t4) (some (.tup []))) fun v10 =>
 bnd (gua v9 true (oNil v10) (some (.tup []))) fun v11 =>
 bnd (gua v9 true (oFieldPtr v11 2) (some (.tup []))) fun v12 =>
 bnd (gua v9 true (oLoad false 1 H v12) (some (.tup []))) fun v13 =>
 bnd (gua v9 true (oBin .eql 6 v13 (.int .i64 0)) (some (.tup []))) fun v14 =>
 bnd (oPick v9 v14 (.bool false)) fun v15 =>
 cnd v15
 (bnd (oNil t4) fun v16 =>
 bnd (oFieldPtr v16 1) fun v17 =>
 bnd (oLoad false 1 H v17) fun v18 =>
 ref03_Read_l2 base t0 t4 t5 v18 H)
 (bnd (oNil t4) fun v55 =>
 bnd (oFieldPtr v55 2) fun v56 =>
 bnd (oLoad false 1 H v56) fun v57 =>
 bnd (oBin .neq 6 v57 (.int .i64 0)) fun v58 =>
 cnd v58
 (bnd (oNil t4) fun v59 =>
 bnd (oFieldPtr v59 2) fun v60 =>
 bnd (oLoad false 1 H v60) fun v61 =>
 rt false base (.tup [.nils, v61]) H)
 (rt false base (.tup [t5, (.int .i64 0)]) H)) := (loop_eq (cAt [1, 1, 1, 1, 0, 0, 0] ref03_Read_c) ((blockK 0 ((seqK (fun _ t => ref03_Read_C base (cAt [1, 1, 1, 1, 1] ref03_Read_c) (ref03_Read_e base) (trimA ref03_Read_ks (cAt [1, 1, 1, 1, 1] ref03_Read_c) t)) (ref03_Read_e base))))) _ H []).trans (by kernel_rfl)
def ref03_Read (base : Nat) (t0 : V) (H : Heap) : Option (Out × Heap) := ref03_Read_C base ref03_Read_c (ref03_Read_e base) [(0, t0)] H []
theorem ref03_Read_eq (base : Nat) (t0 : V) (H : Heap) : ref03_Read base t0 H =
 bnd (oLenStr t0) fun v0 =>
 bnd (oBin .gtr 6 v0 (.int .i64 50000)) fun v1 =>
 cnd v1
 (rt false base (.tup [.nils, (.int .i64 2)]) H)
 (bnd (oBuild [(.str []), (.int .i64 0), (.int .i64 0)] [(0, 1), (1, 1), (2, 1)] [(0, t0)]) fun v2 =>
 beff (oVar H v2) fun v3 h4 =>
 ref03_Read_l1 base t0 v3 .nils h4) := by kernel_rfl
theorem ref03_Read_E (t0 : V) (H : Heap) : E n_ref03_Read [t0] H = ref03_Read H.length t0 H := (EV_at Tryd.func14 (by kernel_rfl) (by kernel_rfl) (by kernel_rfl)).trans (by kernel_rfl)

def ref03_SameLines_c : Code := bodyOf Tryd.f15
def ref03_SameLines_ks : Ks := [(4, [0, 1, 5])]
def ref03_SameLines_e (base : Nat) : KC (Out × Heap) := xEnd Tryd.prog D false base 55 Tryd.f15.results.toList
def ref03_SameLines_C (base : Nat) (c : Code) (k : KC (Out × Heap)) (t : Ts) (H : Heap) (d : Ds) : Option (Out × Heap) := xC Tryd.prog base false ref03_SameLines_ks E 55 c k t H d
def ref03_SameLines_l1 (base : Nat) (t0 t1 t5 : V) (H : Heap) : Option (Out × Heap) :=
iterL (fun t H d again => ref03_SameLines_C base (cAt [1, 1, 0, 1, 0, 0] ref03_SameLines_c) (loopK ref03_SameLines_ks (cAt [1, 1, 0, 1, 0, 0] ref03_SameLines_c) again ((blockK 0 ((seqK (fun _ t => ref03_SameLines_C base (cAt [1, 1, 1] ref03_SameLines_c) (ref03_SameLines_e base) (trimA ref03_SameLines_ks (cAt [1, 1, 1] ref03_SameLines_c) t)) (ref03_SameLines_e base)))))) t H d) [(0, t0), (1, t1), (5, t5)] H []
theorem ref03_SameLines_l1_eq (base : Nat) (t0 t1 t5 : V) (H : Heap) : ref03_SameLines_l1 base t0 t1 t5 H =
 bnd (oLenSl t0) fun v3 =>
 bnd (oBin .lss 6 t5 v3) fun v4 =>
 cnd v4
 (bnd (oIndexPtr 8 t0 t5) fun v5 =>
 bnd (oFieldPtr v5 0) fun v6 =>
 bnd (oLoad false 1 H v6) fun v7 =>
 bnd (oIndexPtr 8 t1 t5) fun v8 =>
 bnd (oFieldPtr v8 0) fun v9 =>
 bnd (oLoad false 1 H v9) fun v10 =>
 bnd (oBin .neq 6 v7 v10) fun v11 =>
 bnd (gua v11 false (oMove t0) (some (.tup []))) fun v12 =>
 bnd (gua v11 false (oMove t5) (some (.tup []))) fun v13 =>
 bnd (gua v11 false (oIndexPtr 8 v12 v13) (some (.tup []))) fun v14 =>
 bnd (gua v11 false (oFieldPtr v14 1) (some (.tup []))) fun v15 =>
 bnd (gua v11 false (oLoad false 1 H v15) (some (.tup []))) fun v16 =>
 bnd (gua v11 false (oMove t1) (some (.tup []))) fun v17 =>
 bnd (gua v11 false (oMove t5) (some (.tup []))) fun v18 =>
 bnd (gua v11 false (oIndexPtr 8 v17 v18) (some (.tup []))) fun v19 =>
 bnd (gua v11 false (oFieldPtr v19 1) (some (.tup []))) fun v20 =>
 bnd (gua v11 false (oLoad false 1 H v20) (some (.tup []))) fun v21 =>
 bnd (gua v11 false (oBin .neq 0 v16 v21) (some (.tup []))) fun v22 =>
 bnd (oPick v11 (.bool true) v22) fun v23 =>
 bnd (gua v23 false (oMove t0) (some (.tup []))) fun v24 =>
 bnd (gua v23 false (oMove t5) (some (.tup []))) fun v25 =>
 bnd (gua v23 false (oIndexPtr 8 v24 v25) (some (.tup []))) fun v26 =>
 bnd (gua v23 false (oFieldPtr v26 2) (some (.tup []))) fun v27 =>
 bnd (gua v23 false (oLoad true 6 H v27) (some (.tup []))) fun v28 =>
 bnd (gua v23 false (oMove t1) (some (.tup []))) fun v29 =>
 bnd (gua v23 false (oMove t5) (some (.tup []))) fun v30 =>
 bnd (gua v23 false (oIndexPtr 8 v29 v30) (some (.tup []))) fun v31 =>
 bnd (gua v23 false (oFieldPtr v31 2) (some (.tup []))) fun v32 =>
 bnd (gua v23 false (oLoad true 6 H v32) (some (.tup []))) fun v33 =>
 bcall (gua v23 false (E n_ref03_Same [v28, v33] H) (some (.ret (.tup []), H))) (fun v34 h35 =>
 bnd (gua v23 false (oUn .not v34) (some (.tup []))) fun v36 =>
 bnd (oPick v23 (.bool true) v36) fun v37 =>
 cnd v37
 (rt false base (.bool false) h35)
 (bnd (oBin .add 6 t5 (.int .i64 1)) fun v38 =>
 ref03_SameLines_l1 base t0 t1 v38 h35))
 (fun v34 h35 => pn false base v34 h35))
 (rt false base (.bool true) H) := (loop_eq (cAt [1, 1, 0, 1, 0, 0] ref03_SameLines_c) ((blockK 0 ((seqK (fun _ t => ref03_SameLines_C base (cAt [1, 1, 1] ref03_SameLines_c) (ref03_SameLines_e base) (trimA ref03_SameLines_ks (cAt [1, 1, 1] ref03_SameLines_c) t)) (ref03_SameLines_e base))))) _ H []).trans (by kernel_rfl)
def ref03_SameLines (base : Nat) (t0 t1 : V) (H : Heap) : Option (Out × Heap) := ref03_SameLines_C base ref03_SameLines_c (ref03_SameLines_e base) [(0, t0), (1, t1)] H []
theorem ref03_SameLines_eq (base : Nat) (t0 t1 : V) (H : Heap) : ref03_SameLines base t0 t1 H =
 bnd (oLenSl t0) fun v0 =>
 bnd (oLenSl t1) fun v1 =>
 bnd (oBin .neq 6 v0 v1) fun v2 =>
 cnd v2
 (rt false base (.bool false) H)
 (ref03_SameLines_l1 base t0 t1 (.int .i64 0) H) := by kernel_rfl
theorem ref03_SameLines_E (t0 t1 : V) (H : Heap) : E n_ref03_SameLines [t0, t1] H = ref03_SameLines H.length t0 t1 H := (EV_at Tryd.func15 (by kernel_rfl) (by kernel_rfl) (by kernel_rfl)).trans (by kernel_rfl)

def teller_Name_c : Code := bodyOf Tryd.f17
def teller_Name_ks : Ks := []
def teller_Name_e (base : Nat) : KC (Out × Heap) := xEnd Tryd.prog D false base 20 Tryd.f17.results.toList
def teller_Name_C (base : Nat) (c : Code) (k : KC (Out × Heap)) (t : Ts) (H : Heap) (d : Ds) : Option (Out × Heap) := xC Tryd.prog base false teller_Name_ks E 20 c k t H d
def teller_Name (base : Nat) (t0 : V) (H : Heap) : Option (Out × Heap) := teller_Name_C base teller_Name_c (teller_Name_e base) [(0, t0)] H []
theorem teller_Name_eq (base : Nat) (t0 : V) (H : Heap) : teller_Name base t0 H =
 bnd (oBin .neq 6 t0 (.str [])) fun v0 =>
 bnd (gua v0 true (oMove t0) (some (.tup []))) fun v1 =>
 bnd (gua v0 true (oLenStr v1) (some (.tup []))) fun v2 =>
 bnd (gua v0 true (oBin .leq 6 v2 (.int .i64 40)) (some (.tup []))) fun v3 =>
 bnd (oPick v0 v3 (.bool false)) fun v4 =>
 bnd (gua v4 true (oMove t0) (some (.tup []))) fun v5 =>
 bnd (gua v4 true (oIndexStr v5 (.int .i64 0)) (some (.tup []))) fun v6 =>
 bcall (gua v4 true (E n_strings_IndexByte [(.str [97, 98, 99, 100, 101, 102, 103, 104, 105, 106, 107, 108, 109, 110, 111, 112, 113, 114, 115, 116, 117, 118, 119, 120, 121, 122]), v6] H) (some (.ret (.tup []), H))) (fun v7 h8 =>
 bnd (gua v4 true (oBin .geq 6 v7 (.int .i64 0)) (some (.tup []))) fun v9 =>
 bnd (oPick v4 v9 (.bool false)) fun v10 =>
 bnd (gua v10 true (oMove t0) (some (.tup []))) fun v11 =>
 bcall (gua v10 true (E n_teller_plain [v11, (.str [97, 98, 99, 100, 101, 102, 103, 104, 105, 106, 107, 108, 109, 110, 111, 112, 113, 114, 115, 116, 117, 118, 119, 120, 121, 122, 48, 49, 50, 51, 52, 53, 54, 55, 56, 57, 45])] h8) (some (.ret (.tup []), h8))) (fun v12 h13 =>
 bnd (oPick v10 v12 (.bool false)) fun v14 =>
 rt false base v14 h13)
 (fun v12 h13 => pn false base v12 h13))
 (fun v7 h8 => pn false base v7 h8) := by kernel_rfl
theorem teller_Name_E (t0 : V) (H : Heap) : E n_teller_Name [t0] H = teller_Name H.length t0 H := (EV_at Tryd.func17 (by kernel_rfl) (by kernel_rfl) (by kernel_rfl)).trans (by kernel_rfl)

def teller_Right_c : Code := bodyOf Tryd.f19
def teller_Right_ks : Ks := []
def teller_Right_e (base : Nat) : KC (Out × Heap) := xEnd Tryd.prog D false base 5 Tryd.f19.results.toList
def teller_Right_C (base : Nat) (c : Code) (k : KC (Out × Heap)) (t : Ts) (H : Heap) (d : Ds) : Option (Out × Heap) := xC Tryd.prog base false teller_Right_ks E 5 c k t H d
def teller_Right (base : Nat) (t0 : V) (H : Heap) : Option (Out × Heap) := teller_Right_C base teller_Right_c (teller_Right_e base) [(0, t0)] H []
theorem teller_Right_eq (base : Nat) (t0 : V) (H : Heap) : teller_Right base t0 H =
 beff (oVar H t0) fun v0 h1 =>
 bnd (oLoad true 6 h1 v0) fun v2 =>
 bcall (E n_teller_within [v2, (.int .i64 50)] h1) (fun v3 h4 =>
 rt false base v3 h4)
 (fun v3 h4 => pn false base v3 h4) := by kernel_rfl
theorem teller_Right_E (t0 : V) (H : Heap) : E n_teller_Right [t0] H = teller_Right H.length t0.nrm H := (EV_atN Tryd.func19 (by kernel_rfl) (by kernel_rfl) (by kernel_rfl)).trans (by kernel_rfl)

def law04_picker_pick_c : Code := bodyOf Tryd.f23
def law04_picker_pick_ks : Ks := []
def law04_picker_pick_e (base : Nat) : KC (Out × Heap) := xEnd Tryd.prog D false base 43 Tryd.f23.results.toList
def law04_picker_pick_C (base : Nat) (c : Code) (k : KC (Out × Heap)) (t : Ts) (H : Heap) (d : Ds) : Option (Out × Heap) := xC Tryd.prog base false law04_picker_pick_ks E 43 c k t H d
def law04_picker_pick (base : Nat) (t0 t1 : V) (H : Heap) : Option (Out × Heap) := law04_picker_pick_C base law04_picker_pick_c (law04_picker_pick_e base) [(0, t0), (1, t1)] H []
theorem law04_picker_pick_eq (base : Nat) (t0 t1 : V) (H : Heap) : law04_picker_pick base t0 t1 H =
 bnd (oNil t0) fun v0 =>
 bnd (oFieldPtr v0 1) fun v1 =>
 bnd (oLoad false 1 H v1) fun v2 =>
 bnd (oBin .add 6 v2 (.int .i64 1)) fun v3 =>
 bnd (oNil t0) fun v4 =>
 bnd (oFieldPtr v4 1) fun v5 =>
 beff (oStore base 1 H v5 v3) fun v6 h7 =>
 bnd (oNil t0) fun v8 =>
 bnd (oFieldPtr v8 1) fun v9 =>
 bnd (oLoad false 1 h7 v9) fun v10 =>
 bnd (oNil t0) fun v11 =>
 bnd (oFieldPtr v11 0) fun v12 =>
 bnd (oLoad false 1 h7 v12) fun v13 =>
 bnd (oLenSl v13) fun v14 =>
 bnd (oBin .gtr 6 v10 v14) fun v15 =>
 bnd (gua v15 false (oMove t0) (some (.tup []))) fun v16 =>
 bnd (gua v15 false (oNil v16) (some (.tup []))) fun v17 =>
 bnd (gua v15 false (oFieldPtr v17 1) (some (.tup []))) fun v18 =>
 bnd (gua v15 false (oLoad false 1 h7 v18) (some (.tup []))) fun v19 =>
 bnd (gua v15 false (oBin .gtr 6 v19 (.int .i64 150)) (some (.tup []))) fun v20 =>
 bnd (oPick v15 (.bool true) v20) fun v21 =>
 cnd v21
 (rt false base (.int .i64 0) h7)
 (bnd (oNil t0) fun v22 =>
 bnd (oFieldPtr v22 0) fun v23 =>
 bnd (oLoad false 1 h7 v23) fun v24 =>
 bnd (oNil t0) fun v25 =>
 bnd (oFieldPtr v25 1) fun v26 =>
 bnd (oLoad false 1 h7 v26) fun v27 =>
 bnd (oBin .sub 6 v27 (.int .i64 1)) fun v28 =>
 bnd (oIndexPtr 1 v24 v28) fun v29 =>
 bnd (oLoad false 1 h7 v29) fun v30 =>
 bnd (oIntTo .i64 v30) fun v31 =>
 bnd (oBin .rem 6 v31 t1) fun v32 =>
 rt false base v32 h7) := by kernel_rfl
theorem law04_picker_pick_E (t0 t1 : V) (H : Heap) : E n_law04_picker_pick [t0, t1] H = law04_picker_pick H.length t0 t1 H := (EV_at Tryd.func23 (by kernel_rfl) (by kernel_rfl) (by kernel_rfl)).trans (by kernel_rfl)

def law04_picker_expr_c : Code := bodyOf Tryd.f24
def law04_picker_expr_ks : Ks := [(4, [0, 1, 4, 5]), (18, [0, 1, 4, 8, 9])]
def law04_picker_expr_e (base : Nat) : KC (Out × Heap) := xEnd Tryd.prog D false base 102 Tryd.f24.results.toList
def law04_picker_expr_C (base : Nat) (c : Code) (k : KC (Out × Heap)) (t : Ts) (H : Heap) (d : Ds) : Option (Out × Heap) := xC Tryd.prog base false law04_picker_expr_ks E 102 c k t H d
def law04_picker_expr_l2 (base : Nat) (t0 t1 t4 t8 t9 : V) (H : Heap) : Option (Out × Heap) :=
iterL (fun t H d again => law04_picker_expr_C base (cAt [1, 1, 1, 1, 1, 0, 1, 0, 0] law04_picker_expr_c) (loopK law04_picker_expr_ks (cAt [1, 1, 1, 1, 1, 0, 1, 0, 0] law04_picker_expr_c) again ((blockK 1 ((seqK (fun _ t => law04_picker_expr_C base (cAt [1, 1, 1, 1, 1, 1] law04_picker_expr_c) (law04_picker_expr_e base) (trimA law04_picker_expr_ks (cAt [1, 1, 1, 1, 1, 1] law04_picker_expr_c) t)) (law04_picker_expr_e base)))))) t H d) [(0, t0), (1, t1), (4, t4), (8, t8), (9, t9)] H []
theorem law04_picker_expr_l2_eq (base : Nat) (t0 t1 t4 t8 t9 : V) (H : Heap) : law04_picker_expr_l2 base t0 t1 t4 t8 t9 H =
 bnd (oBin .gtr 6 t9 (.int .i64 0)) fun v84 =>
 cnd v84
 (bnd (oFieldPtr t8 5) fun v85 =>
 bnd (oLoad false 1 H v85) fun v86 =>
 bnd (oBin .sub 6 t1 (.int .i64 1)) fun v87 =>
 bcall (E n_law04_picker_expr [t0, v87] H) (fun v88 h89 =>
 sch (sam (oLoad false 1 h89 v85) v86) (
 bnd (oLit 6 1 (.agg [(.int .i64 0), (.str []), (.vs []), (.int .i64 0), (.int .i64 0), (.vs [])]) [(0, v88)]) fun v90 =>
 beff (oAppend base 6 88 true v86 v90 h89) fun v91 h92 =>
 bnd (oFieldPtr t8 5) fun v93 =>
 beff (oStore base 1 h92 v93 v91) fun v94 h95 =>
 bnd (oBin .sub 6 t9 (.int .i64 1)) fun v96 =>
 law04_picker_expr_l2 base t0 t1 t4 t8 v96 h95))
 (fun v88 h89 => pn false base v88 h89))
 (bnd (oLoad true 6 H t8) fun v97 =>
 beff (oStore base 6 H t4 v97) fun v98 h99 =>
 bnd (oLoad true 6 h99 t4) fun v100 =>
 rt false base v100 h99) := (loop_eq (cAt [1, 1, 1, 1, 1, 0, 1, 0, 0] law04_picker_expr_c) ((blockK 1 ((seqK (fun _ t => law04_picker_expr_C base (cAt [1, 1, 1, 1, 1, 1] law04_picker_expr_c) (law04_picker_expr_e base) (trimA law04_picker_expr_ks (cAt [1, 1, 1, 1, 1, 1] law04_picker_expr_c) t)) (law04_picker_expr_e base))))) _ H []).trans (by kernel_rfl)
def law04_picker_expr_j1 (base : Nat) (t0 t1 t4 t5 : V) (H : Heap) : Option (Out × Heap) :=
law04_picker_expr_C base (cAt [1, 1, 1] law04_picker_expr_c) (law04_picker_expr_e base) [(0, t0), (1, t1), (4, t4), (5, t5)] H []
theorem law04_picker_expr_j1_eq (base : Nat) (t0 t1 t4 t5 : V) (H : Heap) : law04_picker_expr_j1 base t0 t1 t4 t5 H =
 bnd (oBin .lss 6 t5 (.int .i64 2)) fun v6 =>
 cnd v6
 (bnd (oLit 1 5 (.str []) [(0, (.str [97])), (1, (.str [98])), (2, (.str [99])), (3, (.str [119, 111, 114, 100])), (4, (.str [120, 45, 49]))]) fun v7 =>
 bcall (E n_law04_picker_pick [t0, (.int .i64 5)] H) (fun v8 h9 =>
 bnd (oIndexPtr 1 v7 v8) fun v10 =>
 bnd (oLoad false 1 h9 v10) fun v11 =>
 bnd (oBuild [(.int .i64 0), (.str []), .nils, (.int .i64 0), (.int .i64 0), .nils] [(0, 1), (1, 1), (2, 1), (3, 1), (4, 1), (5, 1)] [(0, (.int .i64 4)), (1, v11)]) fun v12 =>
 beff (oStore base 6 h9 t4 v12) fun v13 h14 =>
 bnd (oLoad true 6 h14 t4) fun v15 =>
 rt false base v15 h14)
 (fun v8 h9 => pn false base v8 h9))
 (bnd (oBin .eql 6 t5 (.int .i64 2)) fun v16 =>
 cnd v16
 (bnd (oLit 1 5 (.str []) [(0, (.str [])), (1, (.str [97])), (2, (.str [98, 32, 99])), (3, (.str [120, 59])), (4, (.str [105, 102]))]) fun v17 =>
 bcall (E n_law04_picker_pick [t0, (.int .i64 5)] H) (fun v18 h19 =>
 bnd (oIndexPtr 1 v17 v18) fun v20 =>
 bnd (oLoad false 1 h19 v20) fun v21 =>
 bnd (oBuild [(.int .i64 0), (.str []), .nils, (.int .i64 0), (.int .i64 0), .nils] [(0, 1), (1, 1), (2, 1), (3, 1), (4, 1), (5, 1)] [(0, (.int .i64 5)), (1, v21)]) fun v22 =>
 beff (oStore base 6 h19 t4 v22) fun v23 h24 =>
 bnd (oLoad true 6 h24 t4) fun v25 =>
 rt false base v25 h24)
 (fun v18 h19 => pn false base v18 h19))
 (bnd (oBin .eql 6 t5 (.int .i64 3)) fun v26 =>
 cnd v26
 (bnd (oLit 1 5 (.int .i64 0) [(0, (.int .i64 0)), (1, (.int .i64 65)), (2, (.int .i64 10)), (3, (.int .i64 255)), (4, (.int .i64 1114111))]) fun v27 =>
 bcall (E n_law04_picker_pick [t0, (.int .i64 5)] H) (fun v28 h29 =>
 bnd (oIndexPtr 1 v27 v28) fun v30 =>
 bnd (oLoad false 1 h29 v30) fun v31 =>
 bcall (E n_law04_picker_pick [t0, (.int .i64 4)] h29) (fun v32 h33 =>
 sch (sam (oLoad false 1 h33 v30) v31) (
 bnd (oBin .add 6 (.int .i64 97) v32) fun v34 =>
 bnd (oLit 1 2 (.int .i64 0) [(0, v31), (1, v34)]) fun v35 =>
 bcall (E n_law04_picker_pick [t0, (.int .i64 2)] h33) (fun v36 h37 =>
 sch (sam (oLoad false 1 h37 v30) v31) (
 bnd (oBin .add 6 (.int .i64 1) v36) fun v38 =>
 bnd (oSlice 1 v35 none (some v38) none) fun v39 =>
 bnd (oBuild [(.int .i64 0), (.str []), .nils, (.int .i64 0), (.int .i64 0), .nils] [(0, 1), (1, 1), (2, 1), (3, 1), (4, 1), (5, 1)] [(0, (.int .i64 6)), (2, v39)]) fun v40 =>
 beff (oStore base 6 h37 t4 v40) fun v41 h42 =>
 bnd (oLoad true 6 h42 t4) fun v43 =>
 rt false base v43 h42))
 (fun v36 h37 => pn false base v36 h37)))
 (fun v32 h33 => sch (tlb (oMove t0) fun v44 => true) (pn false base v32 h33)))
 (fun v28 h29 => sch (tlb (oMove t0) fun v45 => tlb (oMove t0) fun v46 => true) (pn false base v28 h29)))
 (bnd (oBin .eql 6 t5 (.int .i64 4)) fun v47 =>
 cnd v47
 (bcall (E n_law04_picker_pick [t0, (.int .i64 200)] H) (fun v48 h49 =>
 bcall (E n_law04_picker_pick [t0, (.int .i64 60)] h49) (fun v50 h51 =>
 bnd (oBin .add 6 v48 v50) fun v52 =>
 bnd (oLit 1 2 (.int .i64 0) [(0, v48), (1, v52)]) fun v53 =>
 bnd (oBuild [(.int .i64 0), (.str []), .nils, (.int .i64 0), (.int .i64 0), .nils] [(0, 1), (1, 1), (2, 1), (3, 1), (4, 1), (5, 1)] [(0, (.int .i64 7)), (2, v53)]) fun v54 =>
 beff (oStore base 6 h51 t4 v54) fun v55 h56 =>
 bnd (oLoad true 6 h56 t4) fun v57 =>
 rt false base v57 h56)
 (fun v50 h51 => pn false base v50 h51))
 (fun v48 h49 => pn false base v48 h49))
 (bnd (oBin .lss 6 t5 (.int .i64 7)) fun v58 =>
 cnd v58
 (bcall (E n_law04_picker_pick [t0, (.int .i64 5)] H) (fun v59 h60 =>
 bnd (oBin .sub 6 v59 (.int .i64 1)) fun v61 =>
 bcall (E n_law04_picker_pick [t0, (.int .i64 3)] h60) (fun v62 h63 =>
 bnd (oMax [v61, (.int .i64 0)]) fun v64 =>
 bnd (oMin [v62, v64]) fun v65 =>
 bnd (oBin .sub 6 t1 (.int .i64 1)) fun v66 =>
 bcall (E n_law04_picker_expr [t0, v66] h63) (fun v67 h68 =>
 bnd (oLit 6 1 (.agg [(.int .i64 0), (.str []), (.vs []), (.int .i64 0), (.int .i64 0), (.vs [])]) [(0, v67)]) fun v69 =>
 bnd (oBuild [(.int .i64 0), (.str []), .nils, (.int .i64 0), (.int .i64 0), .nils] [(0, 1), (1, 1), (2, 1), (3, 1), (4, 1), (5, 1)] [(0, (.int .i64 3)), (3, v65), (4, v61), (5, v69)]) fun v70 =>
 beff (oStore base 6 h68 t4 v70) fun v71 h72 =>
 bnd (oLoad true 6 h72 t4) fun v73 =>
 rt false base v73 h72)
 (fun v67 h68 => pn false base v67 h68))
 (fun v62 h63 => pn false base v62 h63))
 (fun v59 h60 => pn false base v59 h60))
 (bnd (oBin .rem 6 t5 (.int .i64 2)) fun v74 =>
 bnd (oBin .add 6 (.int .i64 1) v74) fun v75 =>
 bnd (oBuild [(.int .i64 0), (.str []), .nils, (.int .i64 0), (.int .i64 0), .nils] [(0, 1), (1, 1), (2, 1), (3, 1), (4, 1), (5, 1)] [(0, v75)]) fun v76 =>
 beff (oVar H (.agg [(.int .i64 0), (.str []), .nils, (.int .i64 0), (.int .i64 0), .nils])) fun v77 h78 =>
 beff (oStore base 6 h78 v77 v76) fun v79 h80 =>
 bcall (E n_law04_picker_pick [t0, (.int .i64 2)] h80) (fun v81 h82 =>
 bnd (oBin .add 6 (.int .i64 2) v81) fun v83 =>
 law04_picker_expr_l2 base t0 t1 t4 v77 v83 h82)
 (fun v81 h82 => pn false base v81 h82)))))) := by kernel_rfl
def law04_picker_expr (base : Nat) (t0 t1 : V) (H : Heap) : Option (Out × Heap) := law04_picker_expr_C base law04_picker_expr_c (law04_picker_expr_e base) [(0, t0), (1, t1)] H []
theorem law04_picker_expr_eq (base : Nat) (t0 t1 : V) (H : Heap) : law04_picker_expr base t0 t1 H =
 beff (oVar H (.agg [(.int .i64 0), (.str []), .nils, (.int .i64 0), (.int .i64 0), .nils])) fun v0 h1 =>
 bcall (E n_law04_picker_pick [t0, (.int .i64 12)] h1) (fun v2 h3 =>
 bnd (oBin .lss 6 t1 (.int .i64 1)) fun v4 =>
 cnd v4
 (bnd (oBin .rem 6 v2 (.int .i64 5)) fun v5 =>
 law04_picker_expr_j1 base t0 t1 v0 v5 h3)
 (law04_picker_expr_j1 base t0 t1 v0 v2 h3))
 (fun v2 h3 => pn false base v2 h3) := by kernel_rfl
theorem law04_picker_expr_E (t0 t1 : V) (H : Heap) : E n_law04_picker_expr [t0, t1] H = law04_picker_expr H.length t0 t1 H := (EV_at Tryd.func24 (by kernel_rfl) (by kernel_rfl) (by kernel_rfl)).trans (by kernel_rfl)

def teller_text_c : Code := bodyOf Tryd.f26
def teller_text_ks : Ks := []
def teller_text_e (base : Nat) : KC (Out × Heap) := xEnd Tryd.prog D false base 63 Tryd.f26.results.toList
def teller_text_C (base : Nat) (c : Code) (k : KC (Out × Heap)) (t : Ts) (H : Heap) (d : Ds) : Option (Out × Heap) := xC Tryd.prog base false teller_text_ks E 63 c k t H d
def teller_text (base : Nat) (t0 : V) (H : Heap) : Option (Out × Heap) := teller_text_C base teller_text_c (teller_text_e base) [(0, t0)] H []
theorem teller_text_eq (base : Nat) (t0 : V) (H : Heap) : teller_text base t0 H =
 beff (oVar H t0) fun v0 h1 =>
 bnd (oFieldPtr v0 0) fun v2 =>
 bnd (oLoad false 1 h1 v2) fun v3 =>
 bnd (oBin .eql 6 v3 (.int .i64 1)) fun v4 =>
 cnd v4
 (bnd (oFieldPtr v0 5) fun v5 =>
 bnd (oLoad false 1 h1 v5) fun v6 =>
 bnd (oLit 1 1 (.int .i64 0) [(0, (.int .i64 1))]) fun v7 =>
 bcall (E n_teller_texts [v6, v7] h1) (fun v8 h9 =>
 bcall (E n_strings_Join [v8, (.str [32, 47, 32])] h9) (fun v10 h11 =>
 rt false base v10 h11)
 (fun v10 h11 => pn false base v10 h11))
 (fun v8 h9 => pn false base v8 h9))
 (bnd (oBin .eql 6 v3 (.int .i64 2)) fun v12 =>
 cnd v12
 (bnd (oFieldPtr v0 5) fun v13 =>
 bnd (oLoad false 1 h1 v13) fun v14 =>
 bnd (oLit 1 2 (.int .i64 0) [(0, (.int .i64 1)), (1, (.int .i64 2))]) fun v15 =>
 bcall (E n_teller_texts [v14, v15] h1) (fun v16 h17 =>
 bcall (E n_strings_Join [v16, (.str [32])] h17) (fun v18 h19 =>
 rt false base v18 h19)
 (fun v18 h19 => pn false base v18 h19))
 (fun v16 h17 => pn false base v16 h17))
 (bnd (oBin .eql 6 v3 (.int .i64 3)) fun v20 =>
 cnd v20
 (bnd (oFieldPtr v0 3) fun v21 =>
 bnd (oLoad false 1 h1 v21) fun v22 =>
 bnd (oBin .eql 6 v22 (.int .i64 0)) fun v23 =>
 bnd (gua v23 true (oFieldPtr v0 4) (some (.tup []))) fun v24 =>
 bnd (gua v23 true (oLoad false 1 h1 v24) (some (.tup []))) fun v25 =>
 bnd (gua v23 true (oBin .eql 6 v25 (.int .i64 1)) (some (.tup []))) fun v26 =>
 bnd (oPick v23 v26 (.bool false)) fun v27 =>
 cnd v27
 (bnd (oFieldPtr v0 5) fun v28 =>
 bnd (oLoad false 1 h1 v28) fun v29 =>
 bnd (oIndexPtr 6 v29 (.int .i64 0)) fun v30 =>
 bnd (oLoad true 6 h1 v30) fun v31 =>
 bcall (E n_teller_text [v31] h1) (fun v32 h33 =>
 bnd (oBin .add 6 (.str [91]) v32) fun v34 =>
 bnd (oBin .add 6 v34 (.str [93])) fun v35 =>
 rt false base v35 h33)
 (fun v32 h33 => pn false base v32 h33))
 (bnd (oLoad true 6 h1 v0) fun v36 =>
 bcall (E n_teller_often [v36] h1) (fun v37 h38 =>
 bnd (oFieldPtr v0 5) fun v39 =>
 bnd (bnd (oLoad false 1 h38 v39) fun v40 => sch (sam (oLoad false 1 h1 v39) v40) (
 some v40)) fun v40 =>
 bnd (oLit 1 3 (.int .i64 0) [(0, (.int .i64 1)), (1, (.int .i64 2)), (2, (.int .i64 3))]) fun v41 =>
 bcall (E n_teller_texts [v40, v41] h38) (fun v42 h43 =>
 bnd (oIndexPtr 1 v42 (.int .i64 0)) fun v44 =>
 bnd (oLoad false 1 h43 v44) fun v45 =>
 bnd (oBin .add 6 v37 v45) fun v46 =>
 rt false base v46 h43)
 (fun v42 h43 => pn false base v42 h43))
 (fun v37 h38 => sch (tlb (oFieldPtr v0 5) fun v47 => tlb (oLoad false 1 h1 v47) fun v48 => tlb (oLit 1 3 (.int .i64 0) [(0, (.int .i64 1)), (1, (.int .i64 2)), (2, (.int .i64 3))]) fun v49 => true) (pn false base v37 h38))))
 (bnd (oBin .eql 6 v3 (.int .i64 4)) fun v50 =>
 cnd v50
 (bnd (oFieldPtr v0 1) fun v51 =>
 bnd (oLoad false 1 h1 v51) fun v52 =>
 rt false base v52 h1)
 (bnd (oBin .eql 6 v3 (.int .i64 5)) fun v53 =>
 cnd v53
 (bnd (oFieldPtr v0 1) fun v54 =>
 bnd (oLoad false 1 h1 v54) fun v55 =>
 bnd (oBin .add 6 (.str [34]) v55) fun v56 =>
 bnd (oBin .add 6 v56 (.str [34])) fun v57 =>
 rt false base v57 h1)
 (bnd (oBin .eql 6 v3 (.int .i64 6)) fun v58 =>
 cnd v58
 (bnd (oFieldPtr v0 2) fun v59 =>
 bnd (oLoad false 1 h1 v59) fun v60 =>
 bcall (E n_teller_numbers [v60, (.str [46])] h1) (fun v61 h62 =>
 rt false base v61 h62)
 (fun v61 h62 => pn false base v61 h62))
 (bnd (oFieldPtr v0 2) fun v63 =>
 bnd (oLoad false 1 h1 v63) fun v64 =>
 bcall (E n_teller_numbers [v64, (.str [45])] h1) (fun v65 h66 =>
 rt false base v65 h66)
 (fun v65 h66 => pn false base v65 h66))))))) := by kernel_rfl
theorem teller_text_E (t0 : V) (H : Heap) : E n_teller_text [t0] H = teller_text H.length t0 H := (EV_at Tryd.func26 (by kernel_rfl) (by kernel_rfl) (by kernel_rfl)).trans (by kernel_rfl)

def ref03_blank_c : Code := bodyOf Tryd.f28
def ref03_blank_ks : Ks := []
def ref03_blank_e (base : Nat) : KC (Out × Heap) := xEnd Tryd.prog D false base 9 Tryd.f28.results.toList
def ref03_blank_C (base : Nat) (c : Code) (k : KC (Out × Heap)) (t : Ts) (H : Heap) (d : Ds) : Option (Out × Heap) := xC Tryd.prog base false ref03_blank_ks E 9 c k t H d
def ref03_blank (base : Nat) (t0 : V) (H : Heap) : Option (Out × Heap) := ref03_blank_C base ref03_blank_c (ref03_blank_e base) [(0, t0)] H []
theorem ref03_blank_eq (base : Nat) (t0 : V) (H : Heap) : ref03_blank base t0 H =
 bnd (oBin .eql 6 t0 (.int .i64 32)) fun v0 =>
 bnd (gua v0 false (oMove t0) (some (.tup []))) fun v1 =>
 bnd (gua v0 false (oBin .eql 6 v1 (.int .i64 9)) (some (.tup []))) fun v2 =>
 bnd (oPick v0 (.bool true) v2) fun v3 =>
 rt false base v3 H := by kernel_rfl
theorem ref03_blank_E (t0 : V) (H : Heap) : E n_ref03_blank [t0] H = ref03_blank H.length t0 H := (EV_at Tryd.func28 (by kernel_rfl) (by kernel_rfl) (by kernel_rfl)).trans (by kernel_rfl)

def ref03_reader_at_c : Code := bodyOf Tryd.f29
def ref03_reader_at_ks : Ks := []
def ref03_reader_at_e (base : Nat) : KC (Out × Heap) := xEnd Tryd.prog D false base 29 Tryd.f29.results.toList
def ref03_reader_at_C (base : Nat) (c : Code) (k : KC (Out × Heap)) (t : Ts) (H : Heap) (d : Ds) : Option (Out × Heap) := xC Tryd.prog base false ref03_reader_at_ks E 29 c k t H d
def ref03_reader_at (base : Nat) (t0 t1 : V) (H : Heap) : Option (Out × Heap) := ref03_reader_at_C base ref03_reader_at_c (ref03_reader_at_e base) [(0, t0), (1, t1)] H []
theorem ref03_reader_at_eq (base : Nat) (t0 t1 : V) (H : Heap) : ref03_reader_at base t0 t1 H =
 bnd (oNil t0) fun v0 =>
 bnd (oFieldPtr v0 1) fun v1 =>
 bnd (oLoad false 1 H v1) fun v2 =>
 bnd (oBin .add 6 v2 t1) fun v3 =>
 bnd (oNil t0) fun v4 =>
 bnd (oFieldPtr v4 0) fun v5 =>
 bnd (oLoad false 1 H v5) fun v6 =>
 bnd (oLenStr v6) fun v7 =>
 bnd (oBin .geq 6 v3 v7) fun v8 =>
 cnd v8
 (rt false base (.int .i64 (-1)) H)
 (bnd (oNil t0) fun v9 =>
 bnd (oFieldPtr v9 0) fun v10 =>
 bnd (oLoad false 1 H v10) fun v11 =>
 bnd (oNil t0) fun v12 =>
 bnd (oFieldPtr v12 1) fun v13 =>
 bnd (oLoad false 1 H v13) fun v14 =>
 bnd (oBin .add 6 v14 t1) fun v15 =>
 bnd (oIndexStr v11 v15) fun v16 =>
 bnd (oIntTo .i64 v16) fun v17 =>
 rt false base v17 H) := by kernel_rfl
theorem ref03_reader_at_E (t0 t1 : V) (H : Heap) : E n_ref03_reader_at [t0, t1] H = ref03_reader_at H.length t0 t1 H := (EV_at Tryd.func29 (by kernel_rfl) (by kernel_rfl) (by kernel_rfl)).trans (by kernel_rfl)

def ref03_reader_ends_c : Code := bodyOf Tryd.f30
def ref03_reader_ends_ks : Ks := [(4, [0, 3]), (6, [0, 3])]
def ref03_reader_ends_e (base : Nat) : KC (Out × Heap) := xEnd Tryd.prog D false base 52 Tryd.f30.results.toList
def ref03_reader_ends_C (base : Nat) (c : Code) (k : KC (Out × Heap)) (t : Ts) (H : Heap) (d : Ds) : Option (Out × Heap) := xC Tryd.prog base false ref03_reader_ends_ks E 52 c k t H d
def ref03_reader_ends_l1 (base : Nat) (t0 t3 : V) (H : Heap) : Option (Out × Heap) :=
iterL (fun t H d again => ref03_reader_ends_C base (cAt [1, 1, 0, 1, 0, 1, 0, 0] ref03_reader_ends_c) (loopK ref03_reader_ends_ks (cAt [1, 1, 0, 1, 0, 1, 0, 0] ref03_reader_ends_c) again ((blockK 0 ((seqK (fun _ t => ref03_reader_ends_C base (cAt [1, 1, 1] ref03_reader_ends_c) (ref03_reader_ends_e base) (trimA ref03_reader_ends_ks (cAt [1, 1, 1] ref03_reader_ends_c) t)) (ref03_reader_ends_e base)))))) t H d) [(0, t0), (3, t3)] H []
def ref03_reader_ends_j2 (base : Nat) (t0 t3 : V) (H : Heap) : Option (Out × Heap) :=
ref03_reader_ends_C base (cAt [1, 1, 1] ref03_reader_ends_c) (ref03_reader_ends_e base) [(0, t0), (3, t3)] H []
theorem ref03_reader_ends_j2_eq (base : Nat) (t0 t3 : V) (H : Heap) : ref03_reader_ends_j2 base t0 t3 H =
 bcall (E n_ref03_reader_at [t0, t3] H) (fun v21 h22 =>
 bnd (oBin .eql 6 v21 (.int .i64 10)) fun v23 =>
 cnd v23
 (bnd (oBin .add 6 t3 (.int .i64 1)) fun v24 =>
 rt false base v24 h22)
 (bcall (E n_ref03_reader_at [t0, t3] h22) (fun v25 h26 =>
 bnd (oBin .eql 6 v25 (.int .i64 13)) fun v27 =>
 bnd (gua v27 true (oMove t0) (some (.tup []))) fun v28 =>
 bnd (gua v27 true (oMove t3) (some (.tup []))) fun v29 =>
 bnd (gua v27 true (oBin .add 6 v29 (.int .i64 1)) (some (.tup []))) fun v30 =>
 bcall (gua v27 true (E n_ref03_reader_at [v28, v30] h26) (some (.ret (.tup []), h26))) (fun v31 h32 =>
 bnd (gua v27 true (oBin .eql 6 v31 (.int .i64 10)) (some (.tup []))) fun v33 =>
 bnd (oPick v27 v33 (.bool false)) fun v34 =>
 cnd v34
 (bnd (oBin .add 6 t3 (.int .i64 2)) fun v35 =>
 rt false base v35 h32)
 (bcall (E n_ref03_reader_at [t0, t3] h32) (fun v36 h37 =>
 bnd (oBin .lss 6 v36 (.int .i64 0)) fun v38 =>
 cnd v38
 (rt false base t3 h37)
 (rt false base (.int .i64 (-1)) h37))
 (fun v36 h37 => pn false base v36 h37)))
 (fun v31 h32 => pn false base v31 h32))
 (fun v25 h26 => pn false base v25 h26)))
 (fun v21 h22 => pn false base v21 h22) := by kernel_rfl
theorem ref03_reader_ends_l1_eq (base : Nat) (t0 t3 : V) (H : Heap) : ref03_reader_ends_l1 base t0 t3 H =
 bcall (E n_ref03_reader_at [t0, t3] H) (fun v3 h4 =>
 bcall (E n_ref03_blank [v3] h4) (fun v5 h6 =>
 bnd (gua v5 false (oMove t0) (some (.tup []))) fun v7 =>
 bnd (gua v5 false (oMove t3) (some (.tup []))) fun v8 =>
 bcall (gua v5 false (E n_ref03_reader_at [v7, v8] h6) (some (.ret (.tup []), h6))) (fun v9 h10 =>
 bnd (gua v5 false (oBin .gtr 6 v9 (.int .i64 32)) (some (.tup []))) fun v11 =>
 bnd (gua v5 false (oMove v11) (some (.tup []))) fun v12 =>
 bnd (gua v12 true (oMove t0) (some (.tup []))) fun v13 =>
 bnd (gua v12 true (oMove t3) (some (.tup []))) fun v14 =>
 bcall (gua v12 true (E n_ref03_reader_at [v13, v14] h10) (some (.ret (.tup []), h10))) (fun v15 h16 =>
 bnd (gua v12 true (oBin .lss 6 v15 (.int .i64 127)) (some (.tup []))) fun v17 =>
 bnd (gua v5 false (oPick v12 v17 (.bool false)) (some (.tup []))) fun v18 =>
 bnd (oPick v5 (.bool true) v18) fun v19 =>
 cnd v19
 (bnd (oBin .add 6 t3 (.int .i64 1)) fun v20 =>
 ref03_reader_ends_l1 base t0 v20 h16)
 (ref03_reader_ends_j2 base t0 t3 h16))
 (fun v15 h16 => pn false base v15 h16))
 (fun v9 h10 => pn false base v9 h10))
 (fun v5 h6 => pn false base v5 h6))
 (fun v3 h4 => pn false base v3 h4) := (loop_eq (cAt [1, 1, 0, 1, 0, 1, 0, 0] ref03_reader_ends_c) ((blockK 0 ((seqK (fun _ t => ref03_reader_ends_C base (cAt [1, 1, 1] ref03_reader_ends_c) (ref03_reader_ends_e base) (trimA ref03_reader_ends_ks (cAt [1, 1, 1] ref03_reader_ends_c) t)) (ref03_reader_ends_e base))))) _ H []).trans (by kernel_rfl)
def ref03_reader_ends (base : Nat) (t0 : V) (H : Heap) : Option (Out × Heap) := ref03_reader_ends_C base ref03_reader_ends_c (ref03_reader_ends_e base) [(0, t0)] H []
theorem ref03_reader_ends_eq (base : Nat) (t0 : V) (H : Heap) : ref03_reader_ends base t0 H =
 bcall (E n_ref03_reader_at [t0, (.int .i64 0)] H) (fun v0 h1 =>
 bnd (oBin .eql 6 v0 (.int .i64 59)) fun v2 =>
 cnd v2
 (ref03_reader_ends_l1 base t0 (.int .i64 1) h1)
 (ref03_reader_ends_j2 base t0 (.int .i64 0) h1))
 (fun v0 h1 => pn false base v0 h1) := by kernel_rfl
theorem ref03_reader_ends_E (t0 : V) (H : Heap) : E n_ref03_reader_ends [t0] H = ref03_reader_ends H.length t0 H := (EV_at Tryd.func30 (by kernel_rfl) (by kernel_rfl) (by kernel_rfl)).trans (by kernel_rfl)

def ref03_reader_rule_c : Code := bodyOf Tryd.f31
def ref03_reader_rule_ks : Ks := [(5, [0, 2, 3]), (9, [0, 2, 3]), (15, [0, 2, 3, 4])]
def ref03_reader_rule_e (base : Nat) : KC (Out × Heap) := xEnd Tryd.prog D false base 59 Tryd.f31.results.toList
def ref03_reader_rule_C (base : Nat) (c : Code) (k : KC (Out × Heap)) (t : Ts) (H : Heap) (d : Ds) : Option (Out × Heap) := xC Tryd.prog base false ref03_reader_rule_ks E 59 c k t H d
def ref03_reader_rule_j3 (base : Nat) (t0 t2 t3 t4 : V) (H : Heap) : Option (Out × Heap) :=
ref03_reader_rule_C base (cAt [1, 1, 1, 1, 1, 1, 1, 1, 1, 1, 1, 1] ref03_reader_rule_c) (ref03_reader_rule_e base) [(0, t0), (2, t2), (3, t3), (4, t4)] H []
theorem ref03_reader_rule_j3_eq (base : Nat) (t0 t2 t3 t4 : V) (H : Heap) : ref03_reader_rule_j3 base t0 t2 t3 t4 H =
 bnd (oNil t0) fun v54 =>
 bnd (oFieldPtr v54 1) fun v55 =>
 bnd (oLoad false 1 H v55) fun v56 =>
 bnd (oMax [t4, (.int .i64 0)]) fun v57 =>
 bnd (oBin .add 6 v56 v57) fun v58 =>
 bnd (oNil t0) fun v59 =>
 bnd (oFieldPtr v59 1) fun v60 =>
 beff (oStore base 1 H v60 v58) fun v61 h62 =>
 bnd (oLoad true 8 h62 t3) fun v63 =>
 beff (oStore base 8 h62 t2 v63) fun v64 h65 =>
 bnd (oLoad true 8 h65 t2) fun v66 =>
 rt false base v66 h65 := by kernel_rfl
def ref03_reader_rule_j2 (base : Nat) (t0 t2 t3 : V) (H : Heap) : Option (Out × Heap) :=
ref03_reader_rule_C base (cAt [1, 1, 1, 1, 1, 1, 1] ref03_reader_rule_c) (ref03_reader_rule_e base) [(0, t0), (2, t2), (3, t3)] H []
theorem ref03_reader_rule_j2_eq (base : Nat) (t0 t2 t3 : V) (H : Heap) : ref03_reader_rule_j2 base t0 t2 t3 H =
 bcall (E n_ref03_reader_skip [t0] H) (fun v40 h41 =>
 bcall (E n_ref03_reader_alt [t0, (.int .i64 0)] h41) (fun v42 h43 =>
 bnd (oFieldPtr t3 2) fun v44 =>
 beff (oStore base 6 h43 v44 v42) fun v45 h46 =>
 bcall (E n_ref03_reader_skip [t0] h46) (fun v47 h48 =>
 bcall (E n_ref03_reader_ends [t0] h48) (fun v49 h50 =>
 bnd (oBin .lss 6 v49 (.int .i64 0)) fun v51 =>
 cnd v51
 (bcall (E n_ref03_reader_fail [t0, (.int .i64 20)] h50) (fun v52 h53 =>
 ref03_reader_rule_j3 base t0 t2 t3 v49 h53)
 (fun v52 h53 => pn false base v52 h53))
 (ref03_reader_rule_j3 base t0 t2 t3 v49 h50))
 (fun v49 h50 => pn false base v49 h50))
 (fun v47 h48 => pn false base v47 h48))
 (fun v42 h43 => pn false base v42 h43))
 (fun v40 h41 => pn false base v40 h41) := by kernel_rfl
def ref03_reader_rule_j1 (base : Nat) (t0 t2 t3 : V) (H : Heap) : Option (Out × Heap) :=
ref03_reader_rule_C base (cAt [1, 1, 1, 1] ref03_reader_rule_c) (ref03_reader_rule_e base) [(0, t0), (2, t2), (3, t3)] H []
theorem ref03_reader_rule_j1_eq (base : Nat) (t0 t2 t3 : V) (H : Heap) : ref03_reader_rule_j1 base t0 t2 t3 H =
 bnd (oNil t0) fun v16 =>
 bnd (oFieldPtr v16 1) fun v17 =>
 bnd (oLoad false 1 H v17) fun v18 =>
 bnd (oBin .add 6 v18 (.int .i64 1)) fun v19 =>
 bnd (oNil t0) fun v20 =>
 bnd (oFieldPtr v20 1) fun v21 =>
 beff (oStore base 1 H v21 v19) fun v22 h23 =>
 bcall (E n_ref03_reader_at [t0, (.int .i64 0)] h23) (fun v24 h25 =>
 bnd (oBin .eql 6 v24 (.int .i64 47)) fun v26 =>
 bnd (oFieldPtr t3 1) fun v27 =>
 beff (oStore base 1 h25 v27 v26) fun v28 h29 =>
 bnd (oFieldPtr t3 1) fun v30 =>
 bnd (oLoad false 1 h29 v30) fun v31 =>
 cnd v31
 (bnd (oNil t0) fun v32 =>
 bnd (oFieldPtr v32 1) fun v33 =>
 bnd (oLoad false 1 h29 v33) fun v34 =>
 bnd (oBin .add 6 v34 (.int .i64 1)) fun v35 =>
 bnd (oNil t0) fun v36 =>
 bnd (oFieldPtr v36 1) fun v37 =>
 beff (oStore base 1 h29 v37 v35) fun v38 h39 =>
 ref03_reader_rule_j2 base t0 t2 t3 h39)
 (ref03_reader_rule_j2 base t0 t2 t3 h29))
 (fun v24 h25 => pn false base v24 h25) := by kernel_rfl
def ref03_reader_rule (base : Nat) (t0 : V) (H : Heap) : Option (Out × Heap) := ref03_reader_rule_C base ref03_reader_rule_c (ref03_reader_rule_e base) [(0, t0)] H []
theorem ref03_reader_rule_eq (base : Nat) (t0 : V) (H : Heap) : ref03_reader_rule base t0 H =
 beff (oVar H (.agg [(.str []), (.bool false), (.int .i64 0), (.str []), .nils, (.int .i64 0), (.int .i64 0), .nils])) fun v0 h1 =>
 bcall (E n_ref03_reader_name [t0] h1) (fun v2 h3 =>
 bnd (oBuild [(.str []), (.bool false), (.int .i64 0), (.str []), .nils, (.int .i64 0), (.int .i64 0), .nils] [(0, 1), (1, 1), (2, 6)] [(0, v2)]) fun v4 =>
 beff (oVar h3 (.agg [(.str []), (.bool false), (.int .i64 0), (.str []), .nils, (.int .i64 0), (.int .i64 0), .nils])) fun v5 h6 =>
 beff (oStore base 8 h6 v5 v4) fun v7 h8 =>
 bcall (E n_ref03_reader_skip [t0] h8) (fun v9 h10 =>
 bcall (E n_ref03_reader_at [t0, (.int .i64 0)] h10) (fun v11 h12 =>
 bnd (oBin .neq 6 v11 (.int .i64 61)) fun v13 =>
 cnd v13
 (bcall (E n_ref03_reader_fail [t0, (.int .i64 20)] h12) (fun v14 h15 =>
 ref03_reader_rule_j1 base t0 v0 v5 h15)
 (fun v14 h15 => pn false base v14 h15))
 (ref03_reader_rule_j1 base t0 v0 v5 h12))
 (fun v11 h12 => pn false base v11 h12))
 (fun v9 h10 => pn false base v9 h10))
 (fun v2 h3 => pn false base v2 h3) := by kernel_rfl
theorem ref03_reader_rule_E (t0 : V) (H : Heap) : E n_ref03_reader_rule [t0] H = ref03_reader_rule H.length t0 H := (EV_at Tryd.func31 (by kernel_rfl) (by kernel_rfl) (by kernel_rfl)).trans (by kernel_rfl)

def ref03_reader_fail_c : Code := bodyOf Tryd.f32
def ref03_reader_fail_ks : Ks := []
def ref03_reader_fail_e (base : Nat) : KC (Out × Heap) := xEnd Tryd.prog D false base 13 Tryd.f32.results.toList
def ref03_reader_fail_C (base : Nat) (c : Code) (k : KC (Out × Heap)) (t : Ts) (H : Heap) (d : Ds) : Option (Out × Heap) := xC Tryd.prog base false ref03_reader_fail_ks E 13 c k t H d
def ref03_reader_fail (base : Nat) (t0 t1 : V) (H : Heap) : Option (Out × Heap) := ref03_reader_fail_C base ref03_reader_fail_c (ref03_reader_fail_e base) [(0, t0), (1, t1)] H []
theorem ref03_reader_fail_eq (base : Nat) (t0 t1 : V) (H : Heap) : ref03_reader_fail base t0 t1 H =
 bnd (oNil t0) fun v0 =>
 bnd (oFieldPtr v0 2) fun v1 =>
 bnd (oLoad false 1 H v1) fun v2 =>
 bnd (oBin .eql 6 v2 (.int .i64 0)) fun v3 =>
 cnd v3
 (bnd (oNil t0) fun v4 =>
 bnd (oFieldPtr v4 2) fun v5 =>
 beff (oStore base 1 H v5 t1) fun v6 h7 =>
 rt false base (.tup []) h7)
 (rt false base (.tup []) H) := by kernel_rfl
theorem ref03_reader_fail_E (t0 t1 : V) (H : Heap) : E n_ref03_reader_fail [t0, t1] H = ref03_reader_fail H.length t0 t1 H := (EV_at Tryd.func32 (by kernel_rfl) (by kernel_rfl) (by kernel_rfl)).trans (by kernel_rfl)

def ref03_Same_c : Code := bodyOf Tryd.f33
def ref03_Same_ks : Ks := [(4, [2, 3, 5]), (9, [2, 3, 6])]
def ref03_Same_e (base : Nat) : KC (Out × Heap) := xEnd Tryd.prog D false base 88 Tryd.f33.results.toList
def ref03_Same_C (base : Nat) (c : Code) (k : KC (Out × Heap)) (t : Ts) (H : Heap) (d : Ds) : Option (Out × Heap) := xC Tryd.prog base false ref03_Same_ks E 88 c k t H d
def ref03_Same_l1 (base : Nat) (t2 t3 t5 : V) (H : Heap) : Option (Out × Heap) :=
iterL (fun t H d again => ref03_Same_C base (cAt [1, 1, 0, 1, 0, 0] ref03_Same_c) (loopK ref03_Same_ks (cAt [1, 1, 0, 1, 0, 0] ref03_Same_c) again ((blockK 0 ((seqK (fun _ t => ref03_Same_C base (cAt [1, 1, 1] ref03_Same_c) (ref03_Same_e base) (trimA ref03_Same_ks (cAt [1, 1, 1] ref03_Same_c) t)) (ref03_Same_e base)))))) t H d) [(2, t2), (3, t3), (5, t5)] H []
def ref03_Same_l2 (base : Nat) (t2 t3 t6 : V) (H : Heap) : Option (Out × Heap) :=
iterL (fun t H d again => ref03_Same_C base (cAt [1, 1, 1, 0, 1, 0, 0] ref03_Same_c) (loopK ref03_Same_ks (cAt [1, 1, 1, 0, 1, 0, 0] ref03_Same_c) again ((blockK 2 ((seqK (fun _ t => ref03_Same_C base (cAt [1, 1, 1, 1] ref03_Same_c) (ref03_Same_e base) (trimA ref03_Same_ks (cAt [1, 1, 1, 1] ref03_Same_c) t)) (ref03_Same_e base)))))) t H d) [(2, t2), (3, t3), (6, t6)] H []
theorem ref03_Same_l2_eq (base : Nat) (t2 t3 t6 : V) (H : Heap) : ref03_Same_l2 base t2 t3 t6 H =
 bnd (oFieldPtr t2 5) fun v57 =>
 bnd (oLoad false 1 H v57) fun v58 =>
 bnd (oLenSl v58) fun v59 =>
 bnd (oBin .lss 6 t6 v59) fun v60 =>
 cnd v60
 (bnd (oFieldPtr t2 5) fun v61 =>
 bnd (oLoad false 1 H v61) fun v62 =>
 bnd (oIndexPtr 6 v62 t6) fun v63 =>
 bnd (oLoad true 6 H v63) fun v64 =>
 bnd (oFieldPtr t3 5) fun v65 =>
 bnd (oLoad false 1 H v65) fun v66 =>
 bnd (oIndexPtr 6 v66 t6) fun v67 =>
 bnd (oLoad true 6 H v67) fun v68 =>
 bcall (E n_ref03_Same [v64, v68] H) (fun v69 h70 =>
 bnd (oUn .not v69) fun v71 =>
 cnd v71
 (rt false base (.bool false) h70)
 (bnd (oBin .add 6 t6 (.int .i64 1)) fun v72 =>
 ref03_Same_l2 base t2 t3 v72 h70))
 (fun v69 h70 => pn false base v69 h70))
 (rt false base (.bool true) H) := (loop_eq (cAt [1, 1, 1, 0, 1, 0, 0] ref03_Same_c) ((blockK 2 ((seqK (fun _ t => ref03_Same_C base (cAt [1, 1, 1, 1] ref03_Same_c) (ref03_Same_e base) (trimA ref03_Same_ks (cAt [1, 1, 1, 1] ref03_Same_c) t)) (ref03_Same_e base))))) _ H []).trans (by kernel_rfl)
theorem ref03_Same_l1_eq (base : Nat) (t2 t3 t5 : V) (H : Heap) : ref03_Same_l1 base t2 t3 t5 H =
 bnd (oFieldPtr t2 2) fun v43 =>
 bnd (oLoad false 1 H v43) fun v44 =>
 bnd (oLenSl v44) fun v45 =>
 bnd (oBin .lss 6 t5 v45) fun v46 =>
 cnd v46
 (bnd (oFieldPtr t2 2) fun v47 =>
 bnd (oLoad false 1 H v47) fun v48 =>
 bnd (oIndexPtr 1 v48 t5) fun v49 =>
 bnd (oLoad false 1 H v49) fun v50 =>
 bnd (oFieldPtr t3 2) fun v51 =>
 bnd (oLoad false 1 H v51) fun v52 =>
 bnd (oIndexPtr 1 v52 t5) fun v53 =>
 bnd (oLoad false 1 H v53) fun v54 =>
 bnd (oBin .neq 6 v50 v54) fun v55 =>
 cnd v55
 (rt false base (.bool false) H)
 (bnd (oBin .add 6 t5 (.int .i64 1)) fun v56 =>
 ref03_Same_l1 base t2 t3 v56 H))
 (ref03_Same_l2 base t2 t3 (.int .i64 0) H) := (loop_eq (cAt [1, 1, 0, 1, 0, 0] ref03_Same_c) ((blockK 0 ((seqK (fun _ t => ref03_Same_C base (cAt [1, 1, 1] ref03_Same_c) (ref03_Same_e base) (trimA ref03_Same_ks (cAt [1, 1, 1] ref03_Same_c) t)) (ref03_Same_e base))))) _ H []).trans (by kernel_rfl)
def ref03_Same (base : Nat) (t0 t1 : V) (H : Heap) : Option (Out × Heap) := ref03_Same_C base ref03_Same_c (ref03_Same_e base) [(0, t0), (1, t1)] H []
theorem ref03_Same_eq (base : Nat) (t0 t1 : V) (H : Heap) : ref03_Same base t0 t1 H =
 beff (oVar H t0) fun v0 h1 =>
 beff (oVar h1 t1) fun v2 h3 =>
 bnd (oFieldPtr v0 0) fun v4 =>
 bnd (oLoad false 1 h3 v4) fun v5 =>
 bnd (oFieldPtr v2 0) fun v6 =>
 bnd (oLoad false 1 h3 v6) fun v7 =>
 bnd (oBin .neq 6 v5 v7) fun v8 =>
 bnd (gua v8 false (oFieldPtr v0 1) (some (.tup []))) fun v9 =>
 bnd (gua v8 false (oLoad false 1 h3 v9) (some (.tup []))) fun v10 =>
 bnd (gua v8 false (oFieldPtr v2 1) (some (.tup []))) fun v11 =>
 bnd (gua v8 false (oLoad false 1 h3 v11) (some (.tup []))) fun v12 =>
 bnd (gua v8 false (oBin .neq 6 v10 v12) (some (.tup []))) fun v13 =>
 bnd (oPick v8 (.bool true) v13) fun v14 =>
 bnd (gua v14 false (oFieldPtr v0 3) (some (.tup []))) fun v15 =>
 bnd (gua v14 false (oLoad false 1 h3 v15) (some (.tup []))) fun v16 =>
 bnd (gua v14 false (oFieldPtr v2 3) (some (.tup []))) fun v17 =>
 bnd (gua v14 false (oLoad false 1 h3 v17) (some (.tup []))) fun v18 =>
 bnd (gua v14 false (oBin .neq 6 v16 v18) (some (.tup []))) fun v19 =>
 bnd (oPick v14 (.bool true) v19) fun v20 =>
 bnd (gua v20 false (oFieldPtr v0 4) (some (.tup []))) fun v21 =>
 bnd (gua v20 false (oLoad false 1 h3 v21) (some (.tup []))) fun v22 =>
 bnd (gua v20 false (oFieldPtr v2 4) (some (.tup []))) fun v23 =>
 bnd (gua v20 false (oLoad false 1 h3 v23) (some (.tup []))) fun v24 =>
 bnd (gua v20 false (oBin .neq 6 v22 v24) (some (.tup []))) fun v25 =>
 bnd (oPick v20 (.bool true) v25) fun v26 =>
 bnd (gua v26 false (oFieldPtr v0 2) (some (.tup []))) fun v27 =>
 bnd (gua v26 false (oLoad false 1 h3 v27) (some (.tup []))) fun v28 =>
 bnd (gua v26 false (oLenSl v28) (some (.tup []))) fun v29 =>
 bnd (gua v26 false (oFieldPtr v2 2) (some (.tup []))) fun v30 =>
 bnd (gua v26 false (oLoad false 1 h3 v30) (some (.tup []))) fun v31 =>
 bnd (gua v26 false (oLenSl v31) (some (.tup []))) fun v32 =>
 bnd (gua v26 false (oBin .neq 6 v29 v32) (some (.tup []))) fun v33 =>
 bnd (oPick v26 (.bool true) v33) fun v34 =>
 bnd (gua v34 false (oFieldPtr v0 5) (some (.tup []))) fun v35 =>
 bnd (gua v34 false (oLoad false 1 h3 v35) (some (.tup []))) fun v36 =>
 bnd (gua v34 false (oLenSl v36) (some (.tup []))) fun v37 =>
 bnd (gua v34 false (oFieldPtr v2 5) (some (.tup []))) fun v38 =>
 bnd (gua v34 false (oLoad false 1 h3 v38) (some (.tup []))) fun v39 =>
 bnd (gua v34 false (oLenSl v39) (some (.tup []))) fun v40 =>
 bnd (gua v34 false (oBin .neq 6 v37 v40) (some (.tup []))) fun v41 =>
 bnd (oPick v34 (.bool true) v41) fun v42 =>
 cnd v42
 (rt false base (.bool false) h3)
 (ref03_Same_l1 base v0 v2 (.int .i64 0) h3) := by kernel_rfl
theorem ref03_Same_E (t0 t1 : V) (H : Heap) : E n_ref03_Same [t0, t1] H = ref03_Same H.length t0 t1 H := (EV_at Tryd.func33 (by kernel_rfl) (by kernel_rfl) (by kernel_rfl)).trans (by kernel_rfl)
end
end Go.Proofs.YthcjjicplodhjaaDoor
end

