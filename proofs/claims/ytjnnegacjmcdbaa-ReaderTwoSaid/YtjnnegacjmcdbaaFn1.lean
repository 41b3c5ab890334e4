/- Fn1: a part of the proof that each law of this seat answers true at every input. No condition. -/
import Derived.Test.YtjnnegacjmcdbaaHint
import Derived.KernelRfl
set_option linter.unusedVariables false
set_option linter.unusedSimpArgs false
set_option maxRecDepth 20000
section
/- Printed: what functions do. -/
namespace Go.Proofs.Ytjnnegacjmcdbaa
open Go Go.Ev
set_option linter.unusedVariables false
noncomputable section

def gosem_cut_init_c : Code := bodyOf Try.f2
def gosem_cut_init_ks : Ks := []
def gosem_cut_init_e (base : Nat) : KC (Out × Heap) := xEnd Try.prog D false base 1 Try.f2.results.toList
def gosem_cut_init_C (base : Nat) (c : Code) (k : KC (Out × Heap)) (t : Ts) (H : Heap) (d : Ds) : Option (Out × Heap) := xC Try.prog base false gosem_cut_init_ks E 1 c k t H d
def gosem_cut_init (base : Nat) (H : Heap) : Option (Out × Heap) := gosem_cut_init_C base gosem_cut_init_c (gosem_cut_init_e base) [] H []
theorem gosem_cut_init_eq (base : Nat) (H : Heap) : gosem_cut_init base  H =
 bcall (E n_gosem_cut [] H) (fun v0 h1 =>
 rt false base (.tup []) h1)
 (fun v0 h1 => pn false base v0 h1) := by kernel_rfl
theorem gosem_cut_init_E (H : Heap) : E n_gosem_cut_init [] H = gosem_cut_init H.length  H := (EV_at Try.func2 (by kernel_rfl) (by kernel_rfl) (by kernel_rfl)).trans (by kernel_rfl)

def law03_ReaderSmall_c : Code := bodyOf Try.f3
def law03_ReaderSmall_ks : Ks := []
def law03_ReaderSmall_e (base : Nat) : KC (Out × Heap) := xEnd Try.prog D false base 23 Try.f3.results.toList
def law03_ReaderSmall_C (base : Nat) (c : Code) (k : KC (Out × Heap)) (t : Ts) (H : Heap) (d : Ds) : Option (Out × Heap) := xC Try.prog base false law03_ReaderSmall_ks E 23 c k t H d
def law03_ReaderSmall (base : Nat) (t0 : V) (H : Heap) : Option (Out × Heap) := law03_ReaderSmall_C base law03_ReaderSmall_c (law03_ReaderSmall_e base) [(0, t0)] H []
theorem law03_ReaderSmall_eq (base : Nat) (t0 : V) (H : Heap) : law03_ReaderSmall base t0 H =
 bcall (E n_law03_signs [] H) (fun v0 h1 =>
 bcall (E n_law03_Pieces [t0, v0] h1) (fun v2 h3 =>
 bcall (E n_law03_awake [] h3) (fun v4 h5 =>
 bnd (gua v4 true (oMove v2) (some (.tup []))) fun v6 =>
 bcall (gua v4 true (E n_law03_same [v6] h5) (some (.ret (.tup []), h5))) (fun v7 h8 =>
 bnd (oPick v4 v7 (.bool false)) fun v9 =>
 bnd (gua v9 true (oMove v2) (some (.tup []))) fun v10 =>
 bnd (gua v9 true (oBin .add 6 (.str [114, 32, 61, 32]) v10) (some (.tup []))) fun v11 =>
 bcall (gua v9 true (E n_law03_same [v11] h8) (some (.ret (.tup []), h8))) (fun v12 h13 =>
 bnd (oPick v9 v12 (.bool false)) fun v14 =>
 bnd (gua v14 true (oMove v2) (some (.tup []))) fun v15 =>
 bnd (gua v14 true (oBin .add 6 (.str [114, 32, 61, 32, 97, 32]) v15) (some (.tup []))) fun v16 =>
 bnd (gua v14 true (oBin .add 6 v16 (.str [10])) (some (.tup []))) fun v17 =>
 bcall (gua v14 true (E n_law03_same [v17] h13) (some (.ret (.tup []), h13))) (fun v18 h19 =>
 bnd (oPick v14 v18 (.bool false)) fun v20 =>
 rt false base v20 h19)
 (fun v18 h19 => pn false base v18 h19))
 (fun v12 h13 => pn false base v12 h13))
 (fun v7 h8 => pn false base v7 h8))
 (fun v4 h5 => pn false base v4 h5))
 (fun v2 h3 => pn false base v2 h3))
 (fun v0 h1 => pn false base v0 h1) := by kernel_rfl
theorem law03_ReaderSmall_E (t0 : V) (H : Heap) : E n_law03_ReaderSmall [t0] H = law03_ReaderSmall H.length t0 H := (EV_at Try.func3 (by kernel_rfl) (by kernel_rfl) (by kernel_rfl)).trans (by kernel_rfl)

def law03_ReaderDeep_c : Code := bodyOf Try.f4
def law03_ReaderDeep_ks : Ks := []
def law03_ReaderDeep_e (base : Nat) : KC (Out × Heap) := xEnd Try.prog D false base 64 Try.f4.results.toList
def law03_ReaderDeep_C (base : Nat) (c : Code) (k : KC (Out × Heap)) (t : Ts) (H : Heap) (d : Ds) : Option (Out × Heap) := xC Try.prog base false law03_ReaderDeep_ks E 64 c k t H d
def law03_ReaderDeep (base : Nat) (t0 t1 : V) (H : Heap) : Option (Out × Heap) := law03_ReaderDeep_C base law03_ReaderDeep_c (law03_ReaderDeep_e base) [(0, t0), (1, t1)] H []
theorem law03_ReaderDeep_eq (base : Nat) (t0 t1 : V) (H : Heap) : law03_ReaderDeep base t0 t1 H =
 bnd (oIntTo .i64 t0) fun v0 =>
 bnd (oBin .rem 6 v0 (.int .i64 26)) fun v1 =>
 bnd (oBin .add 6 (.int .i64 35) v1) fun v2 =>
 bcall (E n_law03_many [(.str [40]), v2] H) (fun v3 h4 =>
 bnd (oBin .add 6 v3 (.str [97])) fun v5 =>
 bcall (E n_law03_many [(.str [41]), v2] h4) (fun v6 h7 =>
 bnd (oBin .add 6 v5 v6) fun v8 =>
 bcall (E n_law03_many [(.str [91]), v2] h7) (fun v9 h10 =>
 bnd (oBin .add 6 v9 (.str [97])) fun v11 =>
 bcall (E n_law03_many [(.str [93]), v2] h10) (fun v12 h13 =>
 bnd (oBin .add 6 v11 v12) fun v14 =>
 bcall (E n_law03_many [(.str [49, 40]), v2] h13) (fun v15 h16 =>
 bnd (oBin .add 6 v15 (.str [97])) fun v17 =>
 bcall (E n_law03_many [(.str [41]), v2] h16) (fun v18 h19 =>
 bnd (oBin .add 6 v17 v18) fun v20 =>
 bcall (E n_law03_many [(.str [110]), v2] h19) (fun v21 h22 =>
 bcall (E n_law03_many [(.str [48]), v2] h22) (fun v23 h24 =>
 bnd (oBin .add 6 (.str [37, 120]) v23) fun v25 =>
 bnd (oBin .add 6 v25 (.str [52, 49])) fun v26 =>
 bnd (oBin .rem 6 v2 (.int .i64 4)) fun v27 =>
 bcall (E n_law03_many [(.str [49]), v27] h24) (fun v28 h29 =>
 bnd (oBin .add 6 v28 (.str [53, 97])) fun v30 =>
 bnd (oBin .rem 6 v2 (.int .i64 9)) fun v31 =>
 bcall (E n_law03_many [(.str [49]), v31] h29) (fun v32 h33 =>
 bnd (oBin .add 6 (.str [37, 100]) v32) fun v34 =>
 bcall (E n_law03_many [(.str [46, 49]), v2] h33) (fun v35 h36 =>
 bnd (oBin .add 6 (.str [37, 120, 48]) v35) fun v37 =>
 bcall (E n_law03_many [(.str [97, 32]), v2] h36) (fun v38 h39 =>
 bcall (E n_law03_many [(.str [97, 32, 47, 32]), v2] h39) (fun v40 h41 =>
 bnd (oBin .add 6 v40 (.str [97])) fun v42 =>
 bnd (oLit 1 10 (.str []) [(0, v8), (1, v14), (2, v20), (3, v21), (4, v26), (5, v30), (6, v34), (7, v37), (8, v38), (9, v42)]) fun v43 =>
 bnd (oIntTo .i64 t1) fun v44 =>
 bnd (oBin .rem 6 v44 (.int .i64 10)) fun v45 =>
 bnd (oIndexPtr 1 v43 v45) fun v46 =>
 bnd (oLoad false 1 h41 v46) fun v47 =>
 bcall (E n_law03_awake [] h41) (fun v48 h49 =>
 bnd (gua v48 true (oMove v47) (some (.tup []))) fun v50 =>
 bnd (gua v48 true (oBin .add 6 (.str [114, 32, 61, 32]) v50) (some (.tup []))) fun v51 =>
 bnd (gua v48 true (oBin .add 6 v51 (.str [10])) (some (.tup []))) fun v52 =>
 bcall (gua v48 true (E n_law03_same [v52] h49) (some (.ret (.tup []), h49))) (fun v53 h54 =>
 bnd (oPick v48 v53 (.bool false)) fun v55 =>
 rt false base v55 h54)
 (fun v53 h54 => pn false base v53 h54))
 (fun v48 h49 => pn false base v48 h49))
 (fun v40 h41 => pn false base v40 h41))
 (fun v38 h39 => pn false base v38 h39))
 (fun v35 h36 => pn false base v35 h36))
 (fun v32 h33 => pn false base v32 h33))
 (fun v28 h29 => pn false base v28 h29))
 (fun v23 h24 => pn false base v23 h24))
 (fun v21 h22 => pn false base v21 h22))
 (fun v18 h19 => pn false base v18 h19))
 (fun v15 h16 => pn false base v15 h16))
 (fun v12 h13 => pn false base v12 h13))
 (fun v9 h10 => pn false base v9 h10))
 (fun v6 h7 => pn false base v6 h7))
 (fun v3 h4 => pn false base v3 h4) := by kernel_rfl
theorem law03_ReaderDeep_E (t0 t1 : V) (H : Heap) : E n_law03_ReaderDeep [t0, t1] H = law03_ReaderDeep H.length t0 t1 H := (EV_at Try.func4 (by kernel_rfl) (by kernel_rfl) (by kernel_rfl)).trans (by kernel_rfl)

def law03_ReaderTwo_c : Code := bodyOf Try.f5
def law03_ReaderTwo_ks : Ks := [(6, [0, 1, 11])]
def law03_ReaderTwo_e (base : Nat) : KC (Out × Heap) := xEnd Try.prog D false base 95 Try.f5.results.toList
def law03_ReaderTwo_C (base : Nat) (c : Code) (k : KC (Out × Heap)) (t : Ts) (H : Heap) (d : Ds) : Option (Out × Heap) := xC Try.prog base false law03_ReaderTwo_ks E 95 c k t H d
def law03_ReaderTwo_j1 (base : Nat) (t0 t1 t11 : V) (H : Heap) : Option (Out × Heap) :=
law03_ReaderTwo_C base (cAt [1, 1, 1, 1] law03_ReaderTwo_c) (law03_ReaderTwo_e base) [(0, t0), (1, t1), (11, t11)] H []
theorem law03_ReaderTwo_j1_eq (base : Nat) (t0 t1 t11 : V) (H : Heap) : law03_ReaderTwo_j1 base t0 t1 t11 H =
 bnd (oLenStr t0) fun v13 =>
 bnd (oBin .gtr 6 v13 (.int .i64 300)) fun v14 =>
 bnd (gua v14 false (oMove t1) (some (.tup []))) fun v15 =>
 bnd (gua v14 false (oLenStr v15) (some (.tup []))) fun v16 =>
 bnd (gua v14 false (oBin .gtr 6 v16 (.int .i64 300)) (some (.tup []))) fun v17 =>
 bnd (oPick v14 (.bool true) v17) fun v18 =>
 cnd v18
 (rt false base t11 H)
 (bcall (E n_reader_Read [t0] H) (fun v19 h20 =>
 bnd (oExtract v19 0) fun v21 =>
 bnd (oExtract v19 1) fun v22 =>
 bcall (E n_reader_Read [t1] h20) (fun v23 h24 =>
 bnd (oExtract v23 0) fun v25 =>
 bnd (oExtract v23 1) fun v26 =>
 bnd (oBin .neq 6 v22 (.int .i64 0)) fun v27 =>
 bnd (gua v27 false (oMove v26) (some (.tup []))) fun v28 =>
 bnd (gua v27 false (oBin .neq 6 v28 (.int .i64 0)) (some (.tup []))) fun v29 =>
 bnd (oPick v27 (.bool true) v29) fun v30 =>
 bnd (gua v30 false (oMove t1) (some (.tup []))) fun v31 =>
 bnd (gua v30 false (oBin .eql 6 v31 (.str [])) (some (.tup []))) fun v32 =>
 bnd (oPick v30 (.bool true) v32) fun v33 =>
 bnd (gua v33 false (oMove t1) (some (.tup []))) fun v34 =>
 bnd (gua v33 false (oIndexStr v34 (.int .i64 0)) (some (.tup []))) fun v35 =>
 bnd (gua v33 false (oBin .eql 6 v35 (.int .u8 32)) (some (.tup []))) fun v36 =>
 bnd (oPick v33 (.bool true) v36) fun v37 =>
 bnd (gua v37 false (oMove t1) (some (.tup []))) fun v38 =>
 bnd (gua v37 false (oIndexStr v38 (.int .i64 0)) (some (.tup []))) fun v39 =>
 bnd (gua v37 false (oBin .eql 6 v39 (.int .u8 9)) (some (.tup []))) fun v40 =>
 bnd (oPick v37 (.bool true) v40) fun v41 =>
 cnd v41
 (rt false base t11 h24)
 (bnd (oBin .add 6 t0 (.str [10])) fun v42 =>
 bnd (oBin .add 6 v42 t1) fun v43 =>
 bcall (E n_reader_Read [v43] h24) (fun v44 h45 =>
 bnd (oExtract v44 0) fun v46 =>
 bnd (oExtract v44 1) fun v47 =>
 beff (oAppend base 8 112 true .nils v21 h45) fun v48 h49 =>
 beff (oAppend base 8 112 true v48 v25 h49) fun v50 h51 =>
 bnd (gua t11 true (oMove v47) (some (.tup []))) fun v52 =>
 bnd (gua t11 true (oBin .eql 6 v52 (.int .i64 0)) (some (.tup []))) fun v53 =>
 bnd (oPick t11 v53 (.bool false)) fun v54 =>
 bnd (gua v54 true (oMove v46) (some (.tup []))) fun v55 =>
 bnd (gua v54 true (oMove v50) (some (.tup []))) fun v56 =>
 bcall (gua v54 true (E n_ref03_SameLines [v55, v56] h51) (some (.ret (.tup []), h51))) (fun v57 h58 =>
 bnd (oPick v54 v57 (.bool false)) fun v59 =>
 rt false base v59 h58)
 (fun v57 h58 => pn false base v57 h58))
 (fun v44 h45 => pn false base v44 h45)))
 (fun v23 h24 => pn false base v23 h24))
 (fun v19 h20 => pn false base v19 h20)) := by kernel_rfl
def law03_ReaderTwo (base : Nat) (t0 t1 t2 t3 t4 : V) (H : Heap) : Option (Out × Heap) := law03_ReaderTwo_C base law03_ReaderTwo_c (law03_ReaderTwo_e base) [(0, t0), (1, t1), (2, t2), (3, t3), (4, t4)] H []
theorem law03_ReaderTwo_eq (base : Nat) (t0 t1 t2 t3 t4 : V) (H : Heap) : law03_ReaderTwo base t0 t1 t2 t3 t4 H =
 bcall (E n_law03_awake [] H) (fun v0 h1 =>
 bnd (oUn .not v0) fun v2 =>
 cnd v2
 (rt false base (.bool false) h1)
 (cnd t4
 (bcall (E n_law03_signs [] h1) (fun v3 h4 =>
 bcall (E n_law03_Pieces [t2, v3] h4) (fun v5 h6 =>
 bnd (oBin .add 6 (.str [97, 32, 61, 32]) v5) fun v7 =>
 bcall (E n_law03_signs [] h6) (fun v8 h9 =>
 bcall (E n_law03_Pieces [t3, v8] h9) (fun v10 h11 =>
 bnd (oBin .add 6 (.str [98, 32, 61, 32]) v10) fun v12 =>
 law03_ReaderTwo_j1 base v7 v12 v0 h11)
 (fun v10 h11 => pn false base v10 h11))
 (fun v8 h9 => pn false base v8 h9))
 (fun v5 h6 => pn false base v5 h6))
 (fun v3 h4 => pn false base v3 h4))
 (law03_ReaderTwo_j1 base t0 t1 v0 h1)))
 (fun v0 h1 => pn false base v0 h1) := by kernel_rfl
theorem law03_ReaderTwo_E (t0 t1 t2 t3 t4 : V) (H : Heap) : E n_law03_ReaderTwo [t0, t1, t2, t3, t4] H = law03_ReaderTwo H.length t0 t1 t2 t3 t4 H := (EV_at Try.func5 (by kernel_rfl) (by kernel_rfl) (by kernel_rfl)).trans (by kernel_rfl)

def law03_ReaderLines_c : Code := bodyOf Try.f6
def law03_ReaderLines_ks : Ks := [(6, [0, 7])]
def law03_ReaderLines_e (base : Nat) : KC (Out × Heap) := xEnd Try.prog D false base 50 Try.f6.results.toList
def law03_ReaderLines_C (base : Nat) (c : Code) (k : KC (Out × Heap)) (t : Ts) (H : Heap) (d : Ds) : Option (Out × Heap) := xC Try.prog base false law03_ReaderLines_ks E 50 c k t H d
def law03_ReaderLines_j1 (base : Nat) (t0 t7 : V) (H : Heap) : Option (Out × Heap) :=
law03_ReaderLines_C base (cAt [1, 1, 1, 1] law03_ReaderLines_c) (law03_ReaderLines_e base) [(0, t0), (7, t7)] H []
theorem law03_ReaderLines_j1_eq (base : Nat) (t0 t7 : V) (H : Heap) : law03_ReaderLines_j1 base t0 t7 H =
 bcall (E n_reader_Read [t0] H) (fun v8 h9 =>
 bnd (oExtract v8 0) fun v10 =>
 bnd (oExtract v8 1) fun v11 =>
 bnd (oBin .neq 6 v11 (.int .i64 0)) fun v12 =>
 bnd (gua v12 false (oMove t0) (some (.tup []))) fun v13 =>
 bnd (gua v12 false (oLenStr v13) (some (.tup []))) fun v14 =>
 bnd (gua v12 false (oBin .gtr 6 v14 (.int .i64 300)) (some (.tup []))) fun v15 =>
 bnd (oPick v12 (.bool true) v15) fun v16 =>
 cnd v16
 (rt false base t7 h9)
 (bnd (oBin .add 6 (.str [10, 59, 32, 120, 32, 34, 13, 10, 32, 9, 59, 32, 121, 10]) t0) fun v17 =>
 bnd (oBin .add 6 v17 (.str [10, 10, 59, 122])) fun v18 =>
 bcall (E n_reader_Read [v18] h9) (fun v19 h20 =>
 bnd (oExtract v19 0) fun v21 =>
 bnd (oExtract v19 1) fun v22 =>
 bnd (gua t7 true (oMove v22) (some (.tup []))) fun v23 =>
 bnd (gua t7 true (oBin .eql 6 v23 (.int .i64 0)) (some (.tup []))) fun v24 =>
 bnd (oPick t7 v24 (.bool false)) fun v25 =>
 bnd (gua v25 true (oMove v10) (some (.tup []))) fun v26 =>
 bnd (gua v25 true (oMove v21) (some (.tup []))) fun v27 =>
 bcall (gua v25 true (E n_ref03_SameLines [v26, v27] h20) (some (.ret (.tup []), h20))) (fun v28 h29 =>
 bnd (oPick v25 v28 (.bool false)) fun v30 =>
 rt false base v30 h29)
 (fun v28 h29 => pn false base v28 h29))
 (fun v19 h20 => pn false base v19 h20)))
 (fun v8 h9 => pn false base v8 h9) := by kernel_rfl
def law03_ReaderLines (base : Nat) (t0 t1 t2 : V) (H : Heap) : Option (Out × Heap) := law03_ReaderLines_C base law03_ReaderLines_c (law03_ReaderLines_e base) [(0, t0), (1, t1), (2, t2)] H []
theorem law03_ReaderLines_eq (base : Nat) (t0 t1 t2 : V) (H : Heap) : law03_ReaderLines base t0 t1 t2 H =
 bcall (E n_law03_awake [] H) (fun v0 h1 =>
 bnd (oUn .not v0) fun v2 =>
 cnd v2
 (rt false base (.bool false) h1)
 (cnd t2
 (bcall (E n_law03_signs [] h1) (fun v3 h4 =>
 bcall (E n_law03_Pieces [t1, v3] h4) (fun v5 h6 =>
 bnd (oBin .add 6 (.str [97, 32, 61, 32]) v5) fun v7 =>
 law03_ReaderLines_j1 base v7 v0 h6)
 (fun v5 h6 => pn false base v5 h6))
 (fun v3 h4 => pn false base v3 h4))
 (law03_ReaderLines_j1 base t0 v0 h1)))
 (fun v0 h1 => pn false base v0 h1) := by kernel_rfl
theorem law03_ReaderLines_E (t0 t1 t2 : V) (H : Heap) : E n_law03_ReaderLines [t0, t1, t2] H = law03_ReaderLines H.length t0 t1 t2 H := (EV_at Try.func6 (by kernel_rfl) (by kernel_rfl) (by kernel_rfl)).trans (by kernel_rfl)

def law03_ReaderNumbers_c : Code := bodyOf Try.f7
def law03_ReaderNumbers_ks : Ks := [(3, [1, 2, 7, 8]), (9, [1, 2, 7, 8]), (4, [1, 2, 7, 8])]
def law03_ReaderNumbers_e (base : Nat) : KC (Out × Heap) := xEnd Try.prog D false base 54 Try.f7.results.toList
def law03_ReaderNumbers_C (base : Nat) (c : Code) (k : KC (Out × Heap)) (t : Ts) (H : Heap) (d : Ds) : Option (Out × Heap) := xC Try.prog base false law03_ReaderNumbers_ks E 54 c k t H d
def law03_ReaderNumbers_l1 (base : Nat) (t1 t2 t7 t8 : V) (H : Heap) : Option (Out × Heap) :=
iterL (fun t H d again => law03_ReaderNumbers_C base (cAt [1, 1, 0, 1, 0, 0] law03_ReaderNumbers_c) (loopK law03_ReaderNumbers_ks (cAt [1, 1, 0, 1, 0, 0] law03_ReaderNumbers_c) again ((blockK 0 ((seqK (fun _ t => law03_ReaderNumbers_C base (cAt [1, 1, 1] law03_ReaderNumbers_c) (law03_ReaderNumbers_e base) (trimA law03_ReaderNumbers_ks (cAt [1, 1, 1] law03_ReaderNumbers_c) t)) (law03_ReaderNumbers_e base)))))) t H d) [(1, t1), (2, t2), (7, t7), (8, t8)] H []
def law03_ReaderNumbers_j3 (base : Nat) (t1 t2 t7 t8 : V) (H : Heap) : Option (Out × Heap) :=
law03_ReaderNumbers_C base (cAt [1, 1, 0, 1, 0, 0, 1, 1] law03_ReaderNumbers_c) ((loopK law03_ReaderNumbers_ks (cAt [1, 1, 0, 1, 0, 0] law03_ReaderNumbers_c) (iterL (fun t H d again => law03_ReaderNumbers_C base (cAt [1, 1, 0, 1, 0, 0] law03_ReaderNumbers_c) (loopK law03_ReaderNumbers_ks (cAt [1, 1, 0, 1, 0, 0] law03_ReaderNumbers_c) again ((blockK 0 ((seqK (fun _ t => law03_ReaderNumbers_C base (cAt [1, 1, 1] law03_ReaderNumbers_c) (law03_ReaderNumbers_e base) (trimA law03_ReaderNumbers_ks (cAt [1, 1, 1] law03_ReaderNumbers_c) t)) (law03_ReaderNumbers_e base)))))) t H d)) ((blockK 0 ((seqK (fun _ t => law03_ReaderNumbers_C base (cAt [1, 1, 1] law03_ReaderNumbers_c) (law03_ReaderNumbers_e base) (trimA law03_ReaderNumbers_ks (cAt [1, 1, 1] law03_ReaderNumbers_c) t)) (law03_ReaderNumbers_e base))))))) [(1, t1), (2, t2), (7, t7), (8, t8)] H []
theorem law03_ReaderNumbers_j3_eq (base : Nat) (t1 t2 t7 t8 : V) (H : Heap) : law03_ReaderNumbers_j3 base t1 t2 t7 t8 H =
 bnd (oBin .add 6 t8 (.int .i64 1)) fun v25 =>
 law03_ReaderNumbers_l1 base t1 t2 t7 v25 H := by kernel_rfl
def law03_ReaderNumbers_j2 (base : Nat) (t1 t2 t7 t8 : V) (H : Heap) : Option (Out × Heap) :=
law03_ReaderNumbers_C base (cAt [1, 1, 0, 1, 0, 0, 1, 0, 0, 1] law03_ReaderNumbers_c) ((blockK 1 ((seqK (fun _ t => law03_ReaderNumbers_C base (cAt [1, 1, 0, 1, 0, 0, 1, 1] law03_ReaderNumbers_c) ((loopK law03_ReaderNumbers_ks (cAt [1, 1, 0, 1, 0, 0] law03_ReaderNumbers_c) (iterL (fun t H d again => law03_ReaderNumbers_C base (cAt [1, 1, 0, 1, 0, 0] law03_ReaderNumbers_c) (loopK law03_ReaderNumbers_ks (cAt [1, 1, 0, 1, 0, 0] law03_ReaderNumbers_c) again ((blockK 0 ((seqK (fun _ t => law03_ReaderNumbers_C base (cAt [1, 1, 1] law03_ReaderNumbers_c) (law03_ReaderNumbers_e base) (trimA law03_ReaderNumbers_ks (cAt [1, 1, 1] law03_ReaderNumbers_c) t)) (law03_ReaderNumbers_e base)))))) t H d)) ((blockK 0 ((seqK (fun _ t => law03_ReaderNumbers_C base (cAt [1, 1, 1] law03_ReaderNumbers_c) (law03_ReaderNumbers_e base) (trimA law03_ReaderNumbers_ks (cAt [1, 1, 1] law03_ReaderNumbers_c) t)) (law03_ReaderNumbers_e base))))))) (trimA law03_ReaderNumbers_ks (cAt [1, 1, 0, 1, 0, 0, 1, 1] law03_ReaderNumbers_c) t)) ((loopK law03_ReaderNumbers_ks (cAt [1, 1, 0, 1, 0, 0] law03_ReaderNumbers_c) (iterL (fun t H d again => law03_ReaderNumbers_C base (cAt [1, 1, 0, 1, 0, 0] law03_ReaderNumbers_c) (loopK law03_ReaderNumbers_ks (cAt [1, 1, 0, 1, 0, 0] law03_ReaderNumbers_c) again ((blockK 0 ((seqK (fun _ t => law03_ReaderNumbers_C base (cAt [1, 1, 1] law03_ReaderNumbers_c) (law03_ReaderNumbers_e base) (trimA law03_ReaderNumbers_ks (cAt [1, 1, 1] law03_ReaderNumbers_c) t)) (law03_ReaderNumbers_e base)))))) t H d)) ((blockK 0 ((seqK (fun _ t => law03_ReaderNumbers_C base (cAt [1, 1, 1] law03_ReaderNumbers_c) (law03_ReaderNumbers_e base) (trimA law03_ReaderNumbers_ks (cAt [1, 1, 1] law03_ReaderNumbers_c) t)) (law03_ReaderNumbers_e base))))))))))) [(1, t1), (2, t2), (7, t7), (8, t8)] H []
theorem law03_ReaderNumbers_j2_eq (base : Nat) (t1 t2 t7 t8 : V) (H : Heap) : law03_ReaderNumbers_j2 base t1 t2 t7 t8 H =
 bnd (oLit 1 9 (.str []) [(0, (.str [48])), (1, (.str [49])), (2, (.str [49])), (3, (.str [48])), (4, (.str [57])), (5, (.str [65])), (6, (.str [102])), (7, (.str [103])), (8, (.str []))]) fun v17 =>
 bnd (oIndexPtr 1 t1 t8) fun v18 =>
 bnd (oLoad false 1 H v18) fun v19 =>
 bnd (oIntTo .i64 v19) fun v20 =>
 bnd (oBin .rem 6 v20 (.int .i64 9)) fun v21 =>
 bnd (oIndexPtr 1 v17 v21) fun v22 =>
 bnd (oLoad false 1 H v22) fun v23 =>
 bnd (oBin .add 6 t7 v23) fun v24 =>
 law03_ReaderNumbers_j3 base t1 t2 v24 t8 H := by kernel_rfl
theorem law03_ReaderNumbers_l1_eq (base : Nat) (t1 t2 t7 t8 : V) (H : Heap) : law03_ReaderNumbers_l1 base t1 t2 t7 t8 H =
 bnd (oLenSl t1) fun v6 =>
 bnd (oBin .lss 6 t8 v6) fun v7 =>
 bnd (gua v7 true (oMove t8) (some (.tup []))) fun v8 =>
 bnd (gua v7 true (oBin .lss 6 v8 (.int .i64 18)) (some (.tup []))) fun v9 =>
 bnd (oPick v7 v9 (.bool false)) fun v10 =>
 cnd v10
 (bnd (oBin .gtr 6 t8 (.int .i64 0)) fun v11 =>
 bnd (gua v11 true (oMove t8) (some (.tup []))) fun v12 =>
 bnd (gua v11 true (oBin .rem 6 v12 (.int .i64 6)) (some (.tup []))) fun v13 =>
 bnd (gua v11 true (oBin .eql 6 v13 (.int .i64 0)) (some (.tup []))) fun v14 =>
 bnd (oPick v11 v14 (.bool false)) fun v15 =>
 cnd v15
 (cnd t2
 (bnd (oBin .add 6 t7 (.str [45])) fun v16 =>
 law03_ReaderNumbers_j2 base t1 t2 v16 t8 H)
 (bnd (oBin .add 6 t7 (.str [46])) fun v26 =>
 law03_ReaderNumbers_j2 base t1 t2 v26 t8 H))
 (law03_ReaderNumbers_j2 base t1 t2 t7 t8 H))
 (bcall (E n_law03_awake [] H) (fun v27 h28 =>
 bnd (gua v27 true (oMove t7) (some (.tup []))) fun v29 =>
 bcall (gua v27 true (E n_law03_same [v29] h28) (some (.ret (.tup []), h28))) (fun v30 h31 =>
 bnd (oPick v27 v30 (.bool false)) fun v32 =>
 rt false base v32 h31)
 (fun v30 h31 => pn false base v30 h31))
 (fun v27 h28 => pn false base v27 h28)) := (loop_eq (cAt [1, 1, 0, 1, 0, 0] law03_ReaderNumbers_c) ((blockK 0 ((seqK (fun _ t => law03_ReaderNumbers_C base (cAt [1, 1, 1] law03_ReaderNumbers_c) (law03_ReaderNumbers_e base) (trimA law03_ReaderNumbers_ks (cAt [1, 1, 1] law03_ReaderNumbers_c) t)) (law03_ReaderNumbers_e base))))) _ H []).trans (by kernel_rfl)
def law03_ReaderNumbers (base : Nat) (t0 t1 t2 : V) (H : Heap) : Option (Out × Heap) := law03_ReaderNumbers_C base law03_ReaderNumbers_c (law03_ReaderNumbers_e base) [(0, t0), (1, t1), (2, t2)] H []
theorem law03_ReaderNumbers_eq (base : Nat) (t0 t1 t2 : V) (H : Heap) : law03_ReaderNumbers base t0 t1 t2 H =
 bnd (oLit 1 6 (.str []) [(0, (.str [120])), (1, (.str [100])), (2, (.str [98])), (3, (.str [88])), (4, (.str [68])), (5, (.str [66]))]) fun v0 =>
 bnd (oIntTo .i64 t0) fun v1 =>
 bnd (oBin .rem 6 v1 (.int .i64 6)) fun v2 =>
 bnd (oIndexPtr 1 v0 v2) fun v3 =>
 bnd (oLoad false 1 H v3) fun v4 =>
 bnd (oBin .add 6 (.str [114, 32, 61, 32, 37]) v4) fun v5 =>
 law03_ReaderNumbers_l1 base t1 t2 v5 (.int .i64 0) H := by kernel_rfl
theorem law03_ReaderNumbers_E (t0 t1 t2 : V) (H : Heap) : E n_law03_ReaderNumbers [t0, t1, t2] H = law03_ReaderNumbers H.length t0 t1 t2 H := (EV_at Try.func7 (by kernel_rfl) (by kernel_rfl) (by kernel_rfl)).trans (by kernel_rfl)

def law03_ReaderRepeats_c : Code := bodyOf Try.f8
def law03_ReaderRepeats_ks : Ks := []
def law03_ReaderRepeats_e (base : Nat) : KC (Out × Heap) := xEnd Try.prog D false base 63 Try.f8.results.toList
def law03_ReaderRepeats_C (base : Nat) (c : Code) (k : KC (Out × Heap)) (t : Ts) (H : Heap) (d : Ds) : Option (Out × Heap) := xC Try.prog base false law03_ReaderRepeats_ks E 63 c k t H d
def law03_ReaderRepeats (base : Nat) (t0 t1 t2 : V) (H : Heap) : Option (Out × Heap) := law03_ReaderRepeats_C base law03_ReaderRepeats_c (law03_ReaderRepeats_e base) [(0, t0), (1, t1), (2, t2)] H []
theorem law03_ReaderRepeats_eq (base : Nat) (t0 t1 t2 : V) (H : Heap) : law03_ReaderRepeats base t0 t1 t2 H =
 bnd (oIntTo .i64 t0) fun v0 =>
 bnd (oBin .rem 6 v0 (.int .i64 210)) fun v1 =>
 bcall (E n_law03_digits [v1] H) (fun v2 h3 =>
 bnd (oIntTo .i64 t1) fun v4 =>
 bnd (oBin .rem 6 v4 (.int .i64 210)) fun v5 =>
 bcall (E n_law03_digits [v5] h3) (fun v6 h7 =>
 bnd (oBin .add 6 v2 (.str [42])) fun v8 =>
 bnd (oBin .add 6 (.str [42]) v6) fun v9 =>
 bnd (oBin .add 6 v2 (.str [42])) fun v10 =>
 bnd (oBin .add 6 v10 v6) fun v11 =>
 bnd (oBin .add 6 v2 (.str [32, 42])) fun v12 =>
 bnd (oBin .add 6 v12 v6) fun v13 =>
 bnd (oBin .add 6 v2 (.str [42])) fun v14 =>
 bnd (oBin .add 6 v14 v6) fun v15 =>
 bnd (oBin .add 6 v15 (.str [42])) fun v16 =>
 bnd (oLit 1 7 (.str []) [(0, v2), (1, v8), (2, v9), (3, v11), (4, (.str [42])), (5, v13), (6, v16)]) fun v17 =>
 bnd (oIntTo .i64 t2) fun v18 =>
 bnd (oBin .rem 6 v18 (.int .i64 7)) fun v19 =>
 bnd (oIndexPtr 1 v17 v19) fun v20 =>
 bnd (oLoad false 1 h7 v20) fun v21 =>
 bnd (oBin .add 6 (.str [114, 32, 61, 32]) v21) fun v22 =>
 bcall (E n_law03_awake [] h7) (fun v23 h24 =>
 bnd (gua v23 true (oMove v22) (some (.tup []))) fun v25 =>
 bnd (gua v23 true (oBin .add 6 v25 (.str [120])) (some (.tup []))) fun v26 =>
 bcall (gua v23 true (E n_law03_same [v26] h24) (some (.ret (.tup []), h24))) (fun v27 h28 =>
 bnd (oPick v23 v27 (.bool false)) fun v29 =>
 bnd (gua v29 true (oMove v22) (some (.tup []))) fun v30 =>
 bnd (gua v29 true (oBin .add 6 v30 (.str [91, 120, 93])) (some (.tup []))) fun v31 =>
 bcall (gua v29 true (E n_law03_same [v31] h28) (some (.ret (.tup []), h28))) (fun v32 h33 =>
 bnd (oPick v29 v32 (.bool false)) fun v34 =>
 bnd (gua v34 true (oMove v22) (some (.tup []))) fun v35 =>
 bnd (gua v34 true (oBin .add 6 v35 (.str [40, 120, 32, 47, 32, 121, 41, 32, 122, 10])) (some (.tup []))) fun v36 =>
 bcall (gua v34 true (E n_law03_same [v36] h33) (some (.ret (.tup []), h33))) (fun v37 h38 =>
 bnd (oPick v34 v37 (.bool false)) fun v39 =>
 bnd (gua v39 true (oMove v22) (some (.tup []))) fun v40 =>
 bcall (gua v39 true (E n_law03_same [v40] h38) (some (.ret (.tup []), h38))) (fun v41 h42 =>
 bnd (oPick v39 v41 (.bool false)) fun v43 =>
 rt false base v43 h42)
 (fun v41 h42 => pn false base v41 h42))
 (fun v37 h38 => pn false base v37 h38))
 (fun v32 h33 => pn false base v32 h33))
 (fun v27 h28 => pn false base v27 h28))
 (fun v23 h24 => pn false base v23 h24))
 (fun v6 h7 => pn false base v6 h7))
 (fun v2 h3 => pn false base v2 h3) := by kernel_rfl
theorem law03_ReaderRepeats_E (t0 t1 t2 : V) (H : Heap) : E n_law03_ReaderRepeats [t0, t1, t2] H = law03_ReaderRepeats H.length t0 t1 t2 H := (EV_at Try.func8 (by kernel_rfl) (by kernel_rfl) (by kernel_rfl)).trans (by kernel_rfl)

def law03_Pieces_c : Code := bodyOf Try.f9
def law03_Pieces_ks : Ks := [(3, [0, 1, 5, 6])]
def law03_Pieces_e (base : Nat) : KC (Out × Heap) := xEnd Try.prog D false base 31 Try.f9.results.toList
def law03_Pieces_C (base : Nat) (c : Code) (k : KC (Out × Heap)) (t : Ts) (H : Heap) (d : Ds) : Option (Out × Heap) := xC Try.prog base false law03_Pieces_ks E 31 c k t H d
def law03_Pieces_l1 (base : Nat) (t0 t1 t5 t6 : V) (H : Heap) : Option (Out × Heap) :=
iterL (fun t H d again => law03_Pieces_C base (cAt [1, 1, 0, 1, 0, 0] law03_Pieces_c) (loopK law03_Pieces_ks (cAt [1, 1, 0, 1, 0, 0] law03_Pieces_c) again ((blockK 0 ((seqK (fun _ t => law03_Pieces_C base (cAt [1, 1, 1] law03_Pieces_c) (law03_Pieces_e base) (trimA law03_Pieces_ks (cAt [1, 1, 1] law03_Pieces_c) t)) (law03_Pieces_e base)))))) t H d) [(0, t0), (1, t1), (5, t5), (6, t6)] H []
theorem law03_Pieces_l1_eq (base : Nat) (t0 t1 t5 t6 : V) (H : Heap) : law03_Pieces_l1 base t0 t1 t5 t6 H =
 bnd (oLenSl t0) fun v0 =>
 bnd (oBin .lss 6 t6 v0) fun v1 =>
 bnd (gua v1 true (oMove t6) (some (.tup []))) fun v2 =>
 bnd (gua v1 true (oBin .lss 6 v2 (.int .i64 14)) (some (.tup []))) fun v3 =>
 bnd (oPick v1 v3 (.bool false)) fun v4 =>
 cnd v4
 (bnd (oIndexPtr 1 t0 t6) fun v5 =>
 bnd (oLoad false 1 H v5) fun v6 =>
 bnd (oIntTo .i64 v6) fun v7 =>
 bnd (oLenSl t1) fun v8 =>
 bnd (oBin .rem 6 v7 v8) fun v9 =>
 bnd (oIndexPtr 1 t1 v9) fun v10 =>
 bnd (oLoad false 1 H v10) fun v11 =>
 bnd (oBin .add 6 t5 v11) fun v12 =>
 bnd (oBin .add 6 t6 (.int .i64 1)) fun v13 =>
 law03_Pieces_l1 base t0 t1 v12 v13 H)
 (rt false base t5 H) := (loop_eq (cAt [1, 1, 0, 1, 0, 0] law03_Pieces_c) ((blockK 0 ((seqK (fun _ t => law03_Pieces_C base (cAt [1, 1, 1] law03_Pieces_c) (law03_Pieces_e base) (trimA law03_Pieces_ks (cAt [1, 1, 1] law03_Pieces_c) t)) (law03_Pieces_e base))))) _ H []).trans (by kernel_rfl)
def law03_Pieces (base : Nat) (t0 t1 : V) (H : Heap) : Option (Out × Heap) := law03_Pieces_C base law03_Pieces_c (law03_Pieces_e base) [(0, t0), (1, t1)] H []
theorem law03_Pieces_eq (base : Nat) (t0 t1 : V) (H : Heap) : law03_Pieces base t0 t1 H =
 law03_Pieces_l1 base t0 t1 (.str []) (.int .i64 0) H := by kernel_rfl
theorem law03_Pieces_E (t0 t1 : V) (H : Heap) : E n_law03_Pieces [t0, t1] H = law03_Pieces H.length t0 t1 H := (EV_at Try.func9 (by kernel_rfl) (by kernel_rfl) (by kernel_rfl)).trans (by kernel_rfl)

def law03_signs_c : Code := bodyOf Try.f10
def law03_signs_ks : Ks := []
def law03_signs_e (base : Nat) : KC (Out × Heap) := xEnd Try.prog D false base 2 Try.f10.results.toList
def law03_signs_C (base : Nat) (c : Code) (k : KC (Out × Heap)) (t : Ts) (H : Heap) (d : Ds) : Option (Out × Heap) := xC Try.prog base false law03_signs_ks E 2 c k t H d
def law03_signs (base : Nat) (H : Heap) : Option (Out × Heap) := law03_signs_C base law03_signs_c (law03_signs_e base) [] H []
theorem law03_signs_eq (base : Nat) (H : Heap) : law03_signs base  H =
 bnd (oLit 1 30 (.str []) [(0, (.str [97])), (1, (.str [66])), (2, (.str [32, 61, 32])), (3, (.str [61, 47])), (4, (.str [32])), (5, (.str [10])), (6, (.str [13, 10])), (7, (.str [47])), (8, (.str [40])), (9, (.str [41])), (10, (.str [91])), (11, (.str [93])), (12, (.str [42])), (13, (.str [49])), (14, (.str [50, 42, 51])), (15, (.str [34, 120, 34])), (16, (.str [37, 120, 52, 49])), (17, (.str [37, 100, 49, 46, 50])), (18, (.str [37, 98, 48, 45, 49])), (19, (.str [37, 115, 34, 81, 34])), (20, (.str [59, 99])), (21, (.str [45])), (22, (.str [34])), (23, (.str [37])), (24, (.str [48])), (25, (.str [9])), (26, (.str [37, 105, 34, 65, 34])), (27, (.str [10, 32])), (28, (.str [99, 49, 45, 100])), (29, (.str [46, 53]))]) fun v0 =>
 rt false base v0 H := by kernel_rfl
theorem law03_signs_E (H : Heap) : E n_law03_signs [] H = law03_signs H.length  H := (EV_at Try.func10 (by kernel_rfl) (by kernel_rfl) (by kernel_rfl)).trans (by kernel_rfl)

def law03_awake_c : Code := bodyOf Try.f11
def law03_awake_ks : Ks := []
def law03_awake_e (base : Nat) : KC (Out × Heap) := xEnd Try.prog D false base 35 Try.f11.results.toList
def law03_awake_C (base : Nat) (c : Code) (k : KC (Out × Heap)) (t : Ts) (H : Heap) (d : Ds) : Option (Out × Heap) := xC Try.prog base false law03_awake_ks E 35 c k t H d
def law03_awake (base : Nat) (H : Heap) : Option (Out × Heap) := law03_awake_C base law03_awake_c (law03_awake_e base) [] H []
theorem law03_awake_eq (base : Nat) (H : Heap) : law03_awake base  H =
 bcall (E n_reader_Read [(.str [97, 32, 61, 32, 49, 42, 50, 98, 32, 47, 32, 34, 67, 34])] H) (fun v0 h1 =>
 bnd (oExtract v0 0) fun v2 =>
 bnd (oExtract v0 1) fun v3 =>
 bnd (oBuild [(.int .i64 0), (.str []), .nils, (.int .i64 0), (.int .i64 0), .nils] [(0, 1), (1, 1), (2, 1), (3, 1), (4, 1), (5, 1)] [(0, (.int .i64 4)), (1, (.str [98]))]) fun v4 =>
 bnd (oLit 6 1 (.agg [(.int .i64 0), (.str []), (.vs []), (.int .i64 0), (.int .i64 0), (.vs [])]) [(0, v4)]) fun v5 =>
 bnd (oBuild [(.int .i64 0), (.str []), .nils, (.int .i64 0), (.int .i64 0), .nils] [(0, 1), (1, 1), (2, 1), (3, 1), (4, 1), (5, 1)] [(0, (.int .i64 3)), (3, (.int .i64 1)), (4, (.int .i64 2)), (5, v5)]) fun v6 =>
 beff (oVar h1 (.agg [(.int .i64 0), (.str []), .nils, (.int .i64 0), (.int .i64 0), .nils])) fun v7 h8 =>
 beff (oStore base 6 h8 v7 v6) fun v9 h10 =>
 bnd (oLoad true 6 h10 v7) fun v11 =>
 bnd (oBuild [(.int .i64 0), (.str []), .nils, (.int .i64 0), (.int .i64 0), .nils] [(0, 1), (1, 1), (2, 1), (3, 1), (4, 1), (5, 1)] [(0, (.int .i64 5)), (1, (.str [99]))]) fun v12 =>
 bnd (oLit 6 2 (.agg [(.int .i64 0), (.str []), (.vs []), (.int .i64 0), (.int .i64 0), (.vs [])]) [(0, v11), (1, v12)]) fun v13 =>
 bnd (oBuild [(.int .i64 0), (.str []), .nils, (.int .i64 0), (.int .i64 0), .nils] [(0, 1), (1, 1), (2, 1), (3, 1), (4, 1), (5, 1)] [(0, (.int .i64 1)), (5, v13)]) fun v14 =>
 bnd (oBuild [(.str []), (.bool false), (.int .i64 0), (.str []), .nils, (.int .i64 0), (.int .i64 0), .nils] [(0, 1), (1, 1), (2, 6)] [(0, (.str [97])), (2, v14)]) fun v15 =>
 bnd (oLit 8 1 (.agg [(.str []), (.bool false), (.int .i64 0), (.str []), (.vs []), (.int .i64 0), (.int .i64 0), (.vs [])]) [(0, v15)]) fun v16 =>
 bcall (E n_reader_Read [(.str [97, 32, 61, 32])] h10) (fun v17 h18 =>
 bnd (oExtract v17 0) fun v19 =>
 bnd (oExtract v17 1) fun v20 =>
 bnd (oBin .eql 6 v3 (.int .i64 0)) fun v21 =>
 bnd (gua v21 true (oMove v2) (some (.tup []))) fun v22 =>
 bnd (gua v21 true (oMove v16) (some (.tup []))) fun v23 =>
 bcall (gua v21 true (E n_ref03_SameLines [v22, v23] h18) (some (.ret (.tup []), h18))) (fun v24 h25 =>
 bnd (oPick v21 v24 (.bool false)) fun v26 =>
 bnd (gua v26 true (oMove v20) (some (.tup []))) fun v27 =>
 bnd (gua v26 true (oBin .eql 6 v27 (.int .i64 20)) (some (.tup []))) fun v28 =>
 bnd (oPick v26 v28 (.bool false)) fun v29 =>
 rt false base v29 h25)
 (fun v24 h25 => pn false base v24 h25))
 (fun v17 h18 => pn false base v17 h18))
 (fun v0 h1 => pn false base v0 h1) := by kernel_rfl
theorem law03_awake_E (H : Heap) : E n_law03_awake [] H = law03_awake H.length  H := (EV_at Try.func11 (by kernel_rfl) (by kernel_rfl) (by kernel_rfl)).trans (by kernel_rfl)

def law03_same_c : Code := bodyOf Try.f12
def law03_same_ks : Ks := []
def law03_same_e (base : Nat) : KC (Out × Heap) := xEnd Try.prog D false base 25 Try.f12.results.toList
def law03_same_C (base : Nat) (c : Code) (k : KC (Out × Heap)) (t : Ts) (H : Heap) (d : Ds) : Option (Out × Heap) := xC Try.prog base false law03_same_ks E 25 c k t H d
def law03_same (base : Nat) (t0 : V) (H : Heap) : Option (Out × Heap) := law03_same_C base law03_same_c (law03_same_e base) [(0, t0)] H []
theorem law03_same_eq (base : Nat) (t0 : V) (H : Heap) : law03_same base t0 H =
 bcall (E n_reader_Read [t0] H) (fun v0 h1 =>
 bnd (oExtract v0 0) fun v2 =>
 bnd (oExtract v0 1) fun v3 =>
 bcall (E n_ref03_Read [t0] h1) (fun v4 h5 =>
 bnd (oExtract v4 0) fun v6 =>
 bnd (oExtract v4 1) fun v7 =>
 bcall (E n_ref03_SameLines [v2, v6] h5) (fun v8 h9 =>
 bnd (gua v8 true (oMove v3) (some (.tup []))) fun v10 =>
 bnd (gua v8 true (oMove v7) (some (.tup []))) fun v11 =>
 bnd (gua v8 true (oBin .eql 6 v10 v11) (some (.tup []))) fun v12 =>
 bnd (oPick v8 v12 (.bool false)) fun v13 =>
 rt false base v13 h9)
 (fun v8 h9 => pn false base v8 h9))
 (fun v4 h5 => pn false base v4 h5))
 (fun v0 h1 => pn false base v0 h1) := by kernel_rfl
theorem law03_same_E (t0 : V) (H : Heap) : E n_law03_same [t0] H = law03_same H.length t0 H := (EV_at Try.func12 (by kernel_rfl) (by kernel_rfl) (by kernel_rfl)).trans (by kernel_rfl)

def law03_many_c : Code := bodyOf Try.f13
def law03_many_ks : Ks := [(3, [0, 1, 5, 6])]
def law03_many_e (base : Nat) : KC (Out × Heap) := xEnd Try.prog D false base 16 Try.f13.results.toList
def law03_many_C (base : Nat) (c : Code) (k : KC (Out × Heap)) (t : Ts) (H : Heap) (d : Ds) : Option (Out × Heap) := xC Try.prog base false law03_many_ks E 16 c k t H d
def law03_many_l1 (base : Nat) (t0 t1 t5 t6 : V) (H : Heap) : Option (Out × Heap) :=
iterL (fun t H d again => law03_many_C base (cAt [1, 1, 0, 1, 0, 0] law03_many_c) (loopK law03_many_ks (cAt [1, 1, 0, 1, 0, 0] law03_many_c) again ((blockK 0 ((seqK (fun _ t => law03_many_C base (cAt [1, 1, 1] law03_many_c) (law03_many_e base) (trimA law03_many_ks (cAt [1, 1, 1] law03_many_c) t)) (law03_many_e base)))))) t H d) [(0, t0), (1, t1), (5, t5), (6, t6)] H []
theorem law03_many_l1_eq (base : Nat) (t0 t1 t5 t6 : V) (H : Heap) : law03_many_l1 base t0 t1 t5 t6 H =
 bnd (oBin .lss 6 t6 t1) fun v0 =>
 cnd v0
 (bnd (oBin .add 6 t5 t0) fun v1 =>
 bnd (oBin .add 6 t6 (.int .i64 1)) fun v2 =>
 law03_many_l1 base t0 t1 v1 v2 H)
 (rt false base t5 H) := (loop_eq (cAt [1, 1, 0, 1, 0, 0] law03_many_c) ((blockK 0 ((seqK (fun _ t => law03_many_C base (cAt [1, 1, 1] law03_many_c) (law03_many_e base) (trimA law03_many_ks (cAt [1, 1, 1] law03_many_c) t)) (law03_many_e base))))) _ H []).trans (by kernel_rfl)
def law03_many (base : Nat) (t0 t1 : V) (H : Heap) : Option (Out × Heap) := law03_many_C base law03_many_c (law03_many_e base) [(0, t0), (1, t1)] H []
theorem law03_many_eq (base : Nat) (t0 t1 : V) (H : Heap) : law03_many base t0 t1 H =
 law03_many_l1 base t0 t1 (.str []) (.int .i64 0) H := by kernel_rfl
theorem law03_many_E (t0 t1 : V) (H : Heap) : E n_law03_many [t0, t1] H = law03_many H.length t0 t1 H := (EV_at Try.func13 (by kernel_rfl) (by kernel_rfl) (by kernel_rfl)).trans (by kernel_rfl)

def reader_Read_c : Code := bodyOf Try.f14
def reader_Read_ks : Ks := []
def reader_Read_e (base : Nat) : KC (Out × Heap) := xEnd Try.prog D false base 12 Try.f14.results.toList
def reader_Read_C (base : Nat) (c : Code) (k : KC (Out × Heap)) (t : Ts) (H : Heap) (d : Ds) : Option (Out × Heap) := xC Try.prog base false reader_Read_ks E 12 c k t H d
def reader_Read (base : Nat) (t0 : V) (H : Heap) : Option (Out × Heap) := reader_Read_C base reader_Read_c (reader_Read_e base) [(0, t0)] H []
theorem reader_Read_eq (base : Nat) (t0 : V) (H : Heap) : reader_Read base t0 H =
 beff (oVar H .nils) fun v0 h1 =>
 beff (oVar h1 (.int .i64 0)) fun v2 h3 =>
 bnd (oLenStr t0) fun v4 =>
 bnd (oBin .gtr 6 v4 (.int .i64 50000)) fun v5 =>
 cnd v5
 (beff (oStore base 1 h3 v0 .nils) fun v6 h7 =>
 beff (oStore base 1 h7 v2 (.int .i64 2)) fun v8 h9 =>
 bnd (oLoad false 1 h9 v0) fun v10 =>
 bnd (oLoad false 1 h9 v2) fun v11 =>
 rt false base (.tup [v10, v11]) h9)
 (bnd (oMkFn n_reader_Read_1 [v0, v2]) fun v12 =>
 bdef (oFn v12 []) fun d13 =>
 bnd (oBuild [(.str [])] [(0, 1)] [(0, t0)]) fun v14 =>
 beff (oVar h3 v14) fun v15 h16 =>
 bcall (E n_reader_reader_rules [v15] h16) (fun v17 h18 =>
 beff (oStore base 1 h18 v0 v17) fun v19 h20 =>
 beff (oStore base 1 h20 v2 (.int .i64 0)) fun v21 h22 =>
 bdn (D d13.1 d13.2 none h22) fun h23 =>
 bnd (oLoad false 1 h23 v0) fun v24 =>
 bnd (oLoad false 1 h23 v2) fun v25 =>
 rt false base (.tup [v24, v25]) h23)
 (fun v17 h18 => bdp (D d13.1 d13.2 (some v17) h18) (fun h26 =>
 bnd (oLoad false 1 h26 v0) fun v28 =>
 bnd (oLoad false 1 h26 v2) fun v29 =>
 rt false base (.tup [v28, v29]) h26)
 (fun h27 => pn false base v17 h27))) := by kernel_rfl
theorem reader_Read_E (t0 : V) (H : Heap) : E n_reader_Read [t0] H = reader_Read H.length t0 H := (EV_at Try.func14 (by kernel_rfl) (by kernel_rfl) (by kernel_rfl)).trans (by kernel_rfl)

def ref03_SameLines_c : Code := bodyOf Try.f15
def ref03_SameLines_ks : Ks := [(4, [0, 1, 5])]
def ref03_SameLines_e (base : Nat) : KC (Out × Heap) := xEnd Try.prog D false base 55 Try.f15.results.toList
def ref03_SameLines_C (base : Nat) (c : Code) (k : KC (Out × Heap)) (t : Ts) (H : Heap) (d : Ds) : Option (Out × Heap) := xC Try.prog base false ref03_SameLines_ks E 55 c k t H d
def ref03_SameLines_l1 (base : Nat) (t0 t1 t5 : V) (H : Heap) : Option (Out × Heap) :=
iterL (fun t H d again => ref03_SameLines_C base (cAt [1, 1, 0, 1, 0, 0] ref03_SameLines_c) (loopK ref03_SameLines_ks (cAt [1, 1, 0, 1, 0, 0] ref03_SameLines_c) again ((blockK 0 ((seqK (fun _ t => ref03_SameLines_C base (cAt [1, 1, 1] ref03_SameLines_c) (ref03_SameLines_e base) (trimA ref03_SameLines_ks (cAt [1, 1, 1] ref03_SameLines_c) t)) (ref03_SameLines_e base)))))) t H d) [(0, t0), (1, t1), (5, t5)] H []
theorem ref03_SameLines_l1_eq (base : Nat) (t0 t1 t5 : V) (H : Heap) : ref03_SameLines_l1 base t0 t1 t5 H =
 bnd (oLenSl t0) fun v3 =>
 bnd (oBin .lss 6 t5 v3) fun v4 =>
 cnd v4
 (bnd (oIndexPtr 8 t0 t5) fun v5 =>
 bnd (oFieldPtr v5 0) fun v6 =>
 bnd (oLoad false 1 H v6) fun v7 =>
 bnd (oIndexPtr 8 t1 t5) fun v8 =>
 bnd (oFieldPtr v8 0) fun v9 =>
 bnd (oLoad false 1 H v9) fun v10 =>
 bnd (oBin .neq 6 v7 v10) fun v11 =>
 bnd (gua v11 false (oMove t0) (some (.tup []))) fun v12 =>
 bnd (gua v11 false (oMove t5) (some (.tup []))) fun v13 =>
 bnd (gua v11 false (oIndexPtr 8 v12 v13) (some (.tup []))) fun v14 =>
 bnd (gua v11 false (oFieldPtr v14 1) (some (.tup []))) fun v15 =>
 bnd (gua v11 false (oLoad false 1 H v15) (some (.tup []))) fun v16 =>
 bnd (gua v11 false (oMove t1) (some (.tup []))) fun v17 =>
 bnd (gua v11 false (oMove t5) (some (.tup []))) fun v18 =>
 bnd (gua v11 false (oIndexPtr 8 v17 v18) (some (.tup []))) fun v19 =>
 bnd (gua v11 false (oFieldPtr v19 1) (some (.tup []))) fun v20 =>
 bnd (gua v11 false (oLoad false 1 H v20) (some (.tup []))) fun v21 =>
 bnd (gua v11 false (oBin .neq 0 v16 v21) (some (.tup []))) fun v22 =>
 bnd (oPick v11 (.bool true) v22) fun v23 =>
 bnd (gua v23 false (oMove t0) (some (.tup []))) fun v24 =>
 bnd (gua v23 false (oMove t5) (some (.tup []))) fun v25 =>
 bnd (gua v23 false (oIndexPtr 8 v24 v25) (some (.tup []))) fun v26 =>
 bnd (gua v23 false (oFieldPtr v26 2) (some (.tup []))) fun v27 =>
 bnd (gua v23 false (oLoad true 6 H v27) (some (.tup []))) fun v28 =>
 bnd (gua v23 false (oMove t1) (some (.tup []))) fun v29 =>
 bnd (gua v23 false (oMove t5) (some (.tup []))) fun v30 =>
 bnd (gua v23 false (oIndexPtr 8 v29 v30) (some (.tup []))) fun v31 =>
 bnd (gua v23 false (oFieldPtr v31 2) (some (.tup []))) fun v32 =>
 bnd (gua v23 false (oLoad true 6 H v32) (some (.tup []))) fun v33 =>
 bcall (gua v23 false (E n_ref03_Same [v28, v33] H) (some (.ret (.tup []), H))) (fun v34 h35 =>
 bnd (gua v23 false (oUn .not v34) (some (.tup []))) fun v36 =>
 bnd (oPick v23 (.bool true) v36) fun v37 =>
 cnd v37
 (rt false base (.bool false) h35)
 (bnd (oBin .add 6 t5 (.int .i64 1)) fun v38 =>
 ref03_SameLines_l1 base t0 t1 v38 h35))
 (fun v34 h35 => pn false base v34 h35))
 (rt false base (.bool true) H) := (loop_eq (cAt [1, 1, 0, 1, 0, 0] ref03_SameLines_c) ((blockK 0 ((seqK (fun _ t => ref03_SameLines_C base (cAt [1, 1, 1] ref03_SameLines_c) (ref03_SameLines_e base) (trimA ref03_SameLines_ks (cAt [1, 1, 1] ref03_SameLines_c) t)) (ref03_SameLines_e base))))) _ H []).trans (by kernel_rfl)
def ref03_SameLines (base : Nat) (t0 t1 : V) (H : Heap) : Option (Out × Heap) := ref03_SameLines_C base ref03_SameLines_c (ref03_SameLines_e base) [(0, t0), (1, t1)] H []
theorem ref03_SameLines_eq (base : Nat) (t0 t1 : V) (H : Heap) : ref03_SameLines base t0 t1 H =
 bnd (oLenSl t0) fun v0 =>
 bnd (oLenSl t1) fun v1 =>
 bnd (oBin .neq 6 v0 v1) fun v2 =>
 cnd v2
 (rt false base (.bool false) H)
 (ref03_SameLines_l1 base t0 t1 (.int .i64 0) H) := by kernel_rfl
theorem ref03_SameLines_E (t0 t1 : V) (H : Heap) : E n_ref03_SameLines [t0, t1] H = ref03_SameLines H.length t0 t1 H := (EV_at Try.func15 (by kernel_rfl) (by kernel_rfl) (by kernel_rfl)).trans (by kernel_rfl)

def law03_digits_c : Code := bodyOf Try.f16
def law03_digits_ks : Ks := []
def law03_digits_e (base : Nat) : KC (Out × Heap) := xEnd Try.prog D false base 18 Try.f16.results.toList
def law03_digits_C (base : Nat) (c : Code) (k : KC (Out × Heap)) (t : Ts) (H : Heap) (d : Ds) : Option (Out × Heap) := xC Try.prog base false law03_digits_ks E 18 c k t H d
def law03_digits (base : Nat) (t0 : V) (H : Heap) : Option (Out × Heap) := law03_digits_C base law03_digits_c (law03_digits_e base) [(0, t0)] H []
theorem law03_digits_eq (base : Nat) (t0 : V) (H : Heap) : law03_digits base t0 H =
 bnd (oBin .rem 6 t0 (.int .i64 10)) fun v0 =>
 bnd (oBin .add 6 (.int .i64 48) v0) fun v1 =>
 bnd (oIntTo .u8 v1) fun v2 =>
 bnd (oLit 1 1 (.int .u8 0) [(0, v2)]) fun v3 =>
 bnd (oText H v3) fun v4 =>
 bnd (oBin .lss 6 t0 (.int .i64 10)) fun v5 =>
 cnd v5
 (rt false base v4 H)
 (bnd (oBin .quo 6 t0 (.int .i64 10)) fun v6 =>
 bcall (E n_law03_digits [v6] H) (fun v7 h8 =>
 bnd (oBin .add 6 v7 v4) fun v9 =>
 rt false base v9 h8)
 (fun v7 h8 => pn false base v7 h8)) := by kernel_rfl
theorem law03_digits_E (t0 : V) (H : Heap) : E n_law03_digits [t0] H = law03_digits H.length t0 H := (EV_at Try.func16 (by kernel_rfl) (by kernel_rfl) (by kernel_rfl)).trans (by kernel_rfl)

def ref03_Read_c : Code := bodyOf Try.f17
def ref03_Read_ks : Ks := [(5, [0, 4, 5]), (7, [0, 4, 5, 6])]
def ref03_Read_e (base : Nat) : KC (Out × Heap) := xEnd Try.prog D false base 79 Try.f17.results.toList
def ref03_Read_C (base : Nat) (c : Code) (k : KC (Out × Heap)) (t : Ts) (H : Heap) (d : Ds) : Option (Out × Heap) := xC Try.prog base false ref03_Read_ks E 79 c k t H d
def ref03_Read_l1 (base : Nat) (t0 t4 t5 : V) (H : Heap) : Option (Out × Heap) :=
iterL (fun t H d again => ref03_Read_C base (cAt [1, 1, 1, 1, 0, 0, 0] ref03_Read_c) (loopK ref03_Read_ks (cAt [1, 1, 1, 1, 0, 0, 0] ref03_Read_c) again ((blockK 0 ((seqK (fun _ t => ref03_Read_C base (cAt [1, 1, 1, 1, 1] ref03_Read_c) (ref03_Read_e base) (trimA ref03_Read_ks (cAt [1, 1, 1, 1, 1] ref03_Read_c) t)) (ref03_Read_e base)))))) t H d) [(0, t0), (4, t4), (5, t5)] H []
def ref03_Read_l2 (base : Nat) (t0 t4 t5 t6 : V) (H : Heap) : Option (Out × Heap) :=
iterL (fun t H d again => ref03_Read_C base (cAt [1, 1, 1, 1, 0, 0, 0, 1, 0, 1, 0, 0, 0] ref03_Read_c) (loopK ref03_Read_ks (cAt [1, 1, 1, 1, 0, 0, 0, 1, 0, 1, 0, 0, 0] ref03_Read_c) again ((blockK 2 ((seqK (fun _ t => ref03_Read_C base (cAt [1, 1, 1, 1, 0, 0, 0, 1, 0, 1, 1] ref03_Read_c) ((blockK 1 ((loopK ref03_Read_ks (cAt [1, 1, 1, 1, 0, 0, 0] ref03_Read_c) (iterL (fun t H d again => ref03_Read_C base (cAt [1, 1, 1, 1, 0, 0, 0] ref03_Read_c) (loopK ref03_Read_ks (cAt [1, 1, 1, 1, 0, 0, 0] ref03_Read_c) again ((blockK 0 ((seqK (fun _ t => ref03_Read_C base (cAt [1, 1, 1, 1, 1] ref03_Read_c) (ref03_Read_e base) (trimA ref03_Read_ks (cAt [1, 1, 1, 1, 1] ref03_Read_c) t)) (ref03_Read_e base)))))) t H d)) ((blockK 0 ((seqK (fun _ t => ref03_Read_C base (cAt [1, 1, 1, 1, 1] ref03_Read_c) (ref03_Read_e base) (trimA ref03_Read_ks (cAt [1, 1, 1, 1, 1] ref03_Read_c) t)) (ref03_Read_e base))))))))) (trimA ref03_Read_ks (cAt [1, 1, 1, 1, 0, 0, 0, 1, 0, 1, 1] ref03_Read_c) t)) ((blockK 1 ((loopK ref03_Read_ks (cAt [1, 1, 1, 1, 0, 0, 0] ref03_Read_c) (iterL (fun t H d again => ref03_Read_C base (cAt [1, 1, 1, 1, 0, 0, 0] ref03_Read_c) (loopK ref03_Read_ks (cAt [1, 1, 1, 1, 0, 0, 0] ref03_Read_c) again ((blockK 0 ((seqK (fun _ t => ref03_Read_C base (cAt [1, 1, 1, 1, 1] ref03_Read_c) (ref03_Read_e base) (trimA ref03_Read_ks (cAt [1, 1, 1, 1, 1] ref03_Read_c) t)) (ref03_Read_e base)))))) t H d)) ((blockK 0 ((seqK (fun _ t => ref03_Read_C base (cAt [1, 1, 1, 1, 1] ref03_Read_c) (ref03_Read_e base) (trimA ref03_Read_ks (cAt [1, 1, 1, 1, 1] ref03_Read_c) t)) (ref03_Read_e base)))))))))))))) t H d) [(0, t0), (4, t4), (5, t5), (6, t6)] H []
theorem ref03_Read_l2_eq (base : Nat) (t0 t4 t5 t6 : V) (H : Heap) : ref03_Read_l2 base t0 t4 t5 t6 H =
 bcall (E n_ref03_reader_at [t4, (.int .i64 0)] H) (fun v19 h20 =>
 bcall (E n_ref03_blank [v19] h20) (fun v21 h22 =>
 cnd v21
 (bnd (oNil t4) fun v23 =>
 bnd (oFieldPtr v23 1) fun v24 =>
 bnd (oLoad false 1 h22 v24) fun v25 =>
 bnd (oBin .add 6 v25 (.int .i64 1)) fun v26 =>
 bnd (oNil t4) fun v27 =>
 bnd (oFieldPtr v27 1) fun v28 =>
 beff (oStore base 1 h22 v28 v26) fun v29 h30 =>
 ref03_Read_l2 base t0 t4 t5 t6 h30)
 (bcall (E n_ref03_reader_ends [t4] h22) (fun v31 h32 =>
 bnd (oBin .geq 6 v31 (.int .i64 0)) fun v33 =>
 cnd v33
 (bnd (oNil t4) fun v34 =>
 bnd (oFieldPtr v34 1) fun v35 =>
 bnd (oLoad false 1 h32 v35) fun v36 =>
 bnd (oBin .add 6 v36 v31) fun v37 =>
 bnd (oNil t4) fun v38 =>
 bnd (oFieldPtr v38 1) fun v39 =>
 beff (oStore base 1 h32 v39 v37) fun v40 h41 =>
 ref03_Read_l1 base t0 t4 t5 h41)
 (bnd (oNil t4) fun v42 =>
 bnd (oFieldPtr v42 1) fun v43 =>
 beff (oStore base 1 h32 v43 t6) fun v44 h45 =>
 bcall (E n_ref03_reader_rule [t4] h45) (fun v46 h47 =>
 bnd (oLit 8 1 (.agg [(.str []), (.bool false), (.int .i64 0), (.str []), (.vs []), (.int .i64 0), (.int .i64 0), (.vs [])]) [(0, v46)]) fun v48 =>
 beff (oAppend base 8 112 true t5 v48 h47) fun v49 h50 =>
 bnd (oLenSl v49) fun v51 =>
 bnd (oBin .gtr 6 v51 (.int .i64 500)) fun v52 =>
 cnd v52
 (bcall (E n_ref03_reader_fail [t4, (.int .i64 2)] h50) (fun v53 h54 =>
 ref03_Read_l1 base t0 t4 v49 h54)
 (fun v53 h54 => pn false base v53 h54))
 (ref03_Read_l1 base t0 t4 v49 h50))
 (fun v46 h47 => pn false base v46 h47)))
 (fun v31 h32 => pn false base v31 h32)))
 (fun v21 h22 => pn false base v21 h22))
 (fun v19 h20 => pn false base v19 h20) := (loop_eq (cAt [1, 1, 1, 1, 0, 0, 0, 1, 0, 1, 0, 0, 0] ref03_Read_c) ((blockK 2 ((seqK (fun _ t => ref03_Read_C base (cAt [1, 1, 1, 1, 0, 0, 0, 1, 0, 1, 1] ref03_Read_c) ((blockK 1 ((loopK ref03_Read_ks (cAt [1, 1, 1, 1, 0, 0, 0] ref03_Read_c) (iterL (fun t H d again => ref03_Read_C base (cAt [1, 1, 1, 1, 0, 0, 0] ref03_Read_c) (loopK ref03_Read_ks (cAt [1, 1, 1, 1, 0, 0, 0] ref03_Read_c) again ((blockK 0 ((seqK (fun _ t => ref03_Read_C base (cAt [1, 1, 1, 1, 1] ref03_Read_c) (ref03_Read_e base) (trimA ref03_Read_ks (cAt [1, 1, 1, 1, 1] ref03_Read_c) t)) (ref03_Read_e base)))))) t H d)) ((blockK 0 ((seqK (fun _ t => ref03_Read_C base (cAt [1, 1, 1, 1, 1] ref03_Read_c) (ref03_Read_e base) (trimA ref03_Read_ks (cAt [1, 1, 1, 1, 1] ref03_Read_c) t)) (ref03_Read_e base))))))))) (trimA ref03_Read_ks (cAt [1, 1, 1, 1, 0, 0, 0, 1, 0, 1, 1] ref03_Read_c) t)) ((blockK 1 ((loopK ref03_Read_ks (cAt [1, 1, 1, 1, 0, 0, 0] ref03_Read_c) (iterL (fun t H d again => ref03_Read_C base (cAt [1, 1, 1, 1, 0, 0, 0] ref03_Read_c) (loopK ref03_Read_ks (cAt [1, 1, 1, 1, 0, 0, 0] ref03_Read_c) again ((blockK 0 ((seqK (fun _ t => ref03_Read_C base (cAt [1, 1, 1, 1, 1] ref03_Read_c) (ref03_Read_e base) (trimA ref03_Read_ks (cAt [1, 1, 1, 1, 1] ref03_Read_c) t)) (ref03_Read_e base)))))) t H d)) ((blockK 0 ((seqK (fun _ t => ref03_Read_C base (cAt [1, 1, 1, 1, 1] ref03_Read_c) (ref03_Read_e base) (trimA ref03_Read_ks (cAt [1, 1, 1, 1, 1] ref03_Read_c) t)) (ref03_Read_e base))))))))))))) _ H []).trans (by kernel_rfl)
theorem ref03_Read_l1_eq (base : Nat) (t0 t4 t5 : V) (H : Heap) : ref03_Read_l1 base t0 t4 t5 H =
 bnd (oNil t4) fun v5 =>
 bnd (oFieldPtr v5 1) fun v6 =>
 bnd (oLoad false 1 H v6) fun v7 =>
 bnd (oLenStr t0) fun v8 =>
 bnd (oBin .lss 6 v7 v8) fun v9 =>
 bnd (gua v9 true (oMove t4) (some (.tup []))) fun v10 =>
 bnd (gua v9 true (oNil v10) (some (.tup []))) fun v11 =>
 bnd (gua v9 true (oFieldPtr v11 2) (some (.tup []))) fun v12 =>
 bnd (gua v9 true (oLoad false 1 H v12) (some (.tup []))) fun v13 =>
 bnd (gua v9 true (oBin .eql 6 v13 (.int .i64 0)) (some (.tup []))) fun v14 =>
 bnd (oPick v9 v14 (.bool false)) fun v15 =>
 cnd v15
 (bnd (oNil t4) fun v16 =>
 bnd (oFieldPtr v16 1) fun v17 =>
 bnd (oLoad false 1 H v17) fun v18 =>
 ref03_Read_l2 base t0 t4 t5 v18 H)
 (bnd (oNil t4) fun v55 =>
 bnd (oFieldPtr v55 2) fun v56 =>
 bnd (oLoad false 1 H v56) fun v57 =>
 bnd (oBin .neq 6 v57 (.int .i64 0)) fun v58 =>
 cnd v58
 (bnd (oNil t4) fun v59 =>
 bnd (oFieldPtr v59 2) fun v60 =>
 bnd (oLoad false 1 H v60) fun v61 =>
 rt false base (.tup [.nils, v61]) H)
 (rt false base (.tup [t5, (.int .i64 0)]) H)) := (loop_eq (cAt [1, 1, 1, 1, 0, 0, 0] ref03_Read_c) ((blockK 0 ((seqK (fun _ t => ref03_Read_C base (cAt [1, 1, 1, 1, 1] ref03_Read_c) (ref03_Read_e base) (trimA ref03_Read_ks (cAt [1, 1, 1, 1, 1] ref03_Read_c) t)) (ref03_Read_e base))))) _ H []).trans (by kernel_rfl)
def ref03_Read (base : Nat) (t0 : V) (H : Heap) : Option (Out × Heap) := ref03_Read_C base ref03_Read_c (ref03_Read_e base) [(0, t0)] H []
theorem ref03_Read_eq (base : Nat) (t0 : V) (H : Heap) : ref03_Read base t0 H =
 bnd (oLenStr t0) fun v0 =>
 bnd (oBin .gtr 6 v0 (.int .i64 50000)) fun v1 =>
 cnd v1
 (rt false base (.tup [.nils, (.int .i64 2)]) H)
 (bnd (oBuild [(.str []), (.int .i64 0), (.int .i64 0)] [(0, 1), (1, 1), (2, 1)] [(0, t0)]) fun v2 =>
 beff (oVar H v2) fun v3 h4 =>
 ref03_Read_l1 base t0 v3 .nils h4) := by kernel_rfl
theorem ref03_Read_E (t0 : V) (H : Heap) : E n_ref03_Read [t0] H = ref03_Read H.length t0 H := (EV_at Try.func17 (by kernel_rfl) (by kernel_rfl) (by kernel_rfl)).trans (by kernel_rfl)

def reader_Read_1_dn (base : Nat) (t0 t1 : V) (H : Heap) : Option (Bool × Heap) := xS Try.prog base false 8 (bodyOf Try.f18) (sEnd base) [(0, t0), (1, t1)] H none false
theorem reader_Read_1_dn_eq (base : Nat) (t0 t1 : V) (H : Heap) : reader_Read_1_dn base t0 t1 H =
 bnd (oBinI .neq true .niface .niface) fun v0 =>
 cnd v0
 (bnd (oAssert ty_api_Errno .niface) fun v1 =>
 beff (oStore base 1 H t0 .nils) fun v2 h3 =>
 beff (oStore base 1 h3 t1 v1) fun v4 h5 =>
 some (false, htrunc h5 base))
 (some (false, htrunc H base)) := by kernel_rfl
theorem reader_Read_1_dn_D (t0 t1 : V) (H : Heap) {x : Bool × Heap} (h : reader_Read_1_dn H.length t0 t1 H = some x) : D n_reader_Read_1 [t0, t1] none H = some x := dfr_at Try.func18 (by kernel_rfl) (by kernel_rfl) (by kernel_rfl) (by kernel_rfl) h
def reader_Read_1_dp (base : Nat) (t0 t1 : V) (m : V) (H : Heap) : Option (Bool × Heap) := xS Try.prog base false 8 (bodyOf Try.f18) (sEnd base) [(0, t0), (1, t1)] H (some m) false
theorem reader_Read_1_dp_eq (base : Nat) (t0 t1 : V) (m : V) (H : Heap) : reader_Read_1_dp base t0 t1 m H =
 bnd (oBinI .neq true m .niface) fun v6 =>
 cnd v6
 (bnd (oAssert ty_api_Errno m) fun v7 =>
 beff (oStore base 1 H t0 .nils) fun v8 h9 =>
 beff (oStore base 1 h9 t1 v7) fun v10 h11 =>
 some (true, htrunc h11 base))
 (some (true, htrunc H base)) := by kernel_rfl
theorem reader_Read_1_dp_D (t0 t1 : V) (m : V) (H : Heap) {x : Bool × Heap} (h : reader_Read_1_dp H.length t0 t1 m H = some x) : D n_reader_Read_1 [t0, t1] (some m) H = some x := dfr_at Try.func18 (by kernel_rfl) (by kernel_rfl) (by kernel_rfl) (by kernel_rfl) h

def reader_reader_rules_c : Code := bodyOf Try.f19
def reader_reader_rules_ks : Ks := [(1, [0, 2])]
def reader_reader_rules_e (base : Nat) : KC (Out × Heap) := xEnd Try.prog D false base 42 Try.f19.results.toList
def reader_reader_rules_C (base : Nat) (c : Code) (k : KC (Out × Heap)) (t : Ts) (H : Heap) (d : Ds) : Option (Out × Heap) := xC Try.prog base false reader_reader_rules_ks E 42 c k t H d
def reader_reader_rules_l1 (base : Nat) (t0 t2 : V) (H : Heap) : Option (Out × Heap) :=
iterL (fun t H d again => reader_reader_rules_C base (cAt [1, 0, 0, 0] reader_reader_rules_c) (loopK reader_reader_rules_ks (cAt [1, 0, 0, 0] reader_reader_rules_c) again ((blockK 0 ((seqK (fun _ t => reader_reader_rules_C base (cAt [1, 1] reader_reader_rules_c) (reader_reader_rules_e base) (trimA reader_reader_rules_ks (cAt [1, 1] reader_reader_rules_c) t)) (reader_reader_rules_e base)))))) t H d) [(0, t0), (2, t2)] H []
theorem reader_reader_rules_l1_eq (base : Nat) (t0 t2 : V) (H : Heap) : reader_reader_rules_l1 base t0 t2 H =
 bnd (oNil t0) fun v0 =>
 bnd (oFieldPtr v0 0) fun v1 =>
 bnd (oLoad false 1 H v1) fun v2 =>
 bnd (oBin .neq 6 v2 (.str [])) fun v3 =>
 cnd v3
 (bnd (oNil t0) fun v4 =>
 bnd (oFieldPtr v4 0) fun v5 =>
 bnd (oLoad false 1 H v5) fun v6 =>
 bnd (oNil t0) fun v7 =>
 bnd (oFieldPtr v7 0) fun v8 =>
 bnd (oLoad false 1 H v8) fun v9 =>
 bcall (E n_reader_run [v9, (.fn n_reader_isBlank [])] H) (fun v10 h11 =>
 bcall (E n_reader_reader_cut [t0, v10] h11) (fun v12 h13 =>
 bcall (E n_reader_reader_end [t0] h13) (fun v14 h15 =>
 bnd (oBin .geq 6 v14 (.int .i64 0)) fun v16 =>
 cnd v16
 (bcall (E n_reader_reader_cut [t0, v14] h15) (fun v17 h18 =>
 reader_reader_rules_l1 base t0 t2 h18)
 (fun v17 h18 => pn false base v17 h18))
 (bnd (oNil t0) fun v19 =>
 bnd (oFieldPtr v19 0) fun v20 =>
 beff (oStore base 1 h15 v20 v6) fun v21 h22 =>
 bcall (E n_reader_reader_rule [t0] h22) (fun v23 h24 =>
 bnd (oLit 8 1 (.agg [(.str []), (.bool false), (.int .i64 0), (.str []), (.vs []), (.int .i64 0), (.int .i64 0), (.vs [])]) [(0, v23)]) fun v25 =>
 beff (oAppend base 8 112 true t2 v25 h24) fun v26 h27 =>
 bnd (oLenSl v26) fun v28 =>
 bnd (oBin .leq 6 v28 (.int .i64 500)) fun v29 =>
 bcall (E n_reader_want [v29, (.int .i64 2)] h27) (fun v30 h31 =>
 reader_reader_rules_l1 base t0 v26 h31)
 (fun v30 h31 => pn false base v30 h31))
 (fun v23 h24 => pn false base v23 h24)))
 (fun v14 h15 => pn false base v14 h15))
 (fun v12 h13 => pn false base v12 h13))
 (fun v10 h11 => pn false base v10 h11))
 (rt false base t2 H) := (loop_eq (cAt [1, 0, 0, 0] reader_reader_rules_c) ((blockK 0 ((seqK (fun _ t => reader_reader_rules_C base (cAt [1, 1] reader_reader_rules_c) (reader_reader_rules_e base) (trimA reader_reader_rules_ks (cAt [1, 1] reader_reader_rules_c) t)) (reader_reader_rules_e base))))) _ H []).trans (by kernel_rfl)
def reader_reader_rules (base : Nat) (t0 : V) (H : Heap) : Option (Out × Heap) := reader_reader_rules_C base reader_reader_rules_c (reader_reader_rules_e base) [(0, t0)] H []
theorem reader_reader_rules_eq (base : Nat) (t0 : V) (H : Heap) : reader_reader_rules base t0 H =
 reader_reader_rules_l1 base t0 .nils H := by kernel_rfl
theorem reader_reader_rules_E (t0 : V) (H : Heap) : E n_reader_reader_rules [t0] H = reader_reader_rules H.length t0 H := (EV_at Try.func19 (by kernel_rfl) (by kernel_rfl) (by kernel_rfl)).trans (by kernel_rfl)
end
end Go.Proofs.Ytjnnegacjmcdbaa
end

