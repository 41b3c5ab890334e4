/- Fn1: a part of the proof that each law of this seat answers true at every input. No condition. -/
import Derived.Test.YthcjjicplodhjaaDoorHint
import Derived.KernelRfl
set_option linter.unusedVariables false
set_option linter.unusedSimpArgs false
set_option maxRecDepth 20000
section
/- Printed: what functions do. -/
namespace Go.Proofs.YthcjjicplodhjaaDoor
open Go Go.Ev
set_option linter.unusedVariables false
noncomputable section

def law04_TellerAny_c : Code := bodyOf Tryd.f3
def law04_TellerAny_ks : Ks := []
def law04_TellerAny_e (base : Nat) : KC (Out × Heap) := xEnd Tryd.prog D false base 13 Tryd.f3.results.toList
def law04_TellerAny_C (base : Nat) (c : Code) (k : KC (Out × Heap)) (t : Ts) (H : Heap) (d : Ds) : Option (Out × Heap) := xC Tryd.prog base false law04_TellerAny_ks E 13 c k t H d
def law04_TellerAny (base : Nat) (t0 : V) (H : Heap) : Option (Out × Heap) := law04_TellerAny_C base law04_TellerAny_c (law04_TellerAny_e base) [(0, t0)] H []
theorem law04_TellerAny_eq (base : Nat) (t0 : V) (H : Heap) : law04_TellerAny base t0 H =
 bcall (E n_law04_awake [] H) (fun v0 h1 =>
 bnd (gua v0 true (oMove t0) (some (.tup []))) fun v2 =>
 bcall (gua v0 true (E n_law04_Weight [v2] h1) (some (.ret (.tup []), h1))) (fun v3 h4 =>
 bnd (gua v0 true (oBin .gtr 6 v3 (.int .i64 1000)) (some (.tup []))) fun v5 =>
 bnd (gua v0 true (oMove v5) (some (.tup []))) fun v6 =>
 bnd (gua v6 false (oMove t0) (some (.tup []))) fun v7 =>
 bcall (gua v6 false (E n_law04_same [v7] h4) (some (.ret (.tup []), h4))) (fun v8 h9 =>
 bnd (gua v0 true (oPick v6 (.bool true) v8) (some (.tup []))) fun v10 =>
 bnd (oPick v0 v10 (.bool false)) fun v11 =>
 rt false base v11 h9)
 (fun v8 h9 => pn false base v8 h9))
 (fun v3 h4 => pn false base v3 h4))
 (fun v0 h1 => pn false base v0 h1) := by kernel_rfl
theorem law04_TellerAny_E (t0 : V) (H : Heap) : E n_law04_TellerAny [t0] H = law04_TellerAny H.length t0 H := (EV_at Tryd.func3 (by kernel_rfl) (by kernel_rfl) (by kernel_rfl)).trans (by kernel_rfl)

def law04_TellerDeep_c : Code := bodyOf Tryd.f5
def law04_TellerDeep_ks : Ks := [(3, [0, 1, 5, 6]), (4, [0, 1, 5, 6])]
def law04_TellerDeep_e (base : Nat) : KC (Out × Heap) := xEnd Tryd.prog D false base 40 Tryd.f5.results.toList
def law04_TellerDeep_C (base : Nat) (c : Code) (k : KC (Out × Heap)) (t : Ts) (H : Heap) (d : Ds) : Option (Out × Heap) := xC Tryd.prog base false law04_TellerDeep_ks E 40 c k t H d
def law04_TellerDeep_l1 (base : Nat) (t0 t1 t5 t6 : V) (H : Heap) : Option (Out × Heap) :=
iterL (fun t H d again => law04_TellerDeep_C base (cAt [1, 1, 0, 1, 0, 0] law04_TellerDeep_c) (loopK law04_TellerDeep_ks (cAt [1, 1, 0, 1, 0, 0] law04_TellerDeep_c) again ((blockK 0 ((seqK (fun _ t => law04_TellerDeep_C base (cAt [1, 1, 1] law04_TellerDeep_c) (law04_TellerDeep_e base) (trimA law04_TellerDeep_ks (cAt [1, 1, 1] law04_TellerDeep_c) t)) (law04_TellerDeep_e base)))))) t H d) [(0, t0), (1, t1), (5, t5), (6, t6)] H []
def law04_TellerDeep_j2 (base : Nat) (t0 t1 t5 t6 : V) (H : Heap) : Option (Out × Heap) :=
law04_TellerDeep_C base (cAt [1, 1, 0, 1, 0, 0, 1, 1] law04_TellerDeep_c) ((loopK law04_TellerDeep_ks (cAt [1, 1, 0, 1, 0, 0] law04_TellerDeep_c) (iterL (fun t H d again => law04_TellerDeep_C base (cAt [1, 1, 0, 1, 0, 0] law04_TellerDeep_c) (loopK law04_TellerDeep_ks (cAt [1, 1, 0, 1, 0, 0] law04_TellerDeep_c) again ((blockK 0 ((seqK (fun _ t => law04_TellerDeep_C base (cAt [1, 1, 1] law04_TellerDeep_c) (law04_TellerDeep_e base) (trimA law04_TellerDeep_ks (cAt [1, 1, 1] law04_TellerDeep_c) t)) (law04_TellerDeep_e base)))))) t H d)) ((blockK 0 ((seqK (fun _ t => law04_TellerDeep_C base (cAt [1, 1, 1] law04_TellerDeep_c) (law04_TellerDeep_e base) (trimA law04_TellerDeep_ks (cAt [1, 1, 1] law04_TellerDeep_c) t)) (law04_TellerDeep_e base))))))) [(0, t0), (1, t1), (5, t5), (6, t6)] H []
theorem law04_TellerDeep_j2_eq (base : Nat) (t0 t1 t5 t6 : V) (H : Heap) : law04_TellerDeep_j2 base t0 t1 t5 t6 H =
 bnd (oBin .add 6 t6 (.int .i64 1)) fun v16 =>
 law04_TellerDeep_l1 base t0 t1 t5 v16 H := by kernel_rfl
theorem law04_TellerDeep_l1_eq (base : Nat) (t0 t1 t5 t6 : V) (H : Heap) : law04_TellerDeep_l1 base t0 t1 t5 t6 H =
 bnd (oIntTo .i64 t0) fun v5 =>
 bnd (oBin .rem 6 v5 (.int .i64 21)) fun v6 =>
 bnd (oBin .add 6 (.int .i64 40) v6) fun v7 =>
 bnd (oBin .lss 6 t6 v7) fun v8 =>
 cnd v8
 (bnd (oBin .rem 6 t1 (.int .u8 3)) fun v9 =>
 bnd (oBin .eql 6 v9 (.int .u8 0)) fun v10 =>
 cnd v10
 (bnd (oLoad true 6 H t5) fun v11 =>
 bnd (oLit 6 1 (.agg [(.int .i64 0), (.str []), (.vs []), (.int .i64 0), (.int .i64 0), (.vs [])]) [(0, v11)]) fun v12 =>
 bnd (oBuild [(.int .i64 0), (.str []), .nils, (.int .i64 0), (.int .i64 0), .nils] [(0, 1), (1, 1), (2, 1), (3, 1), (4, 1), (5, 1)] [(0, (.int .i64 3)), (4, (.int .i64 (-1))), (5, v12)]) fun v13 =>
 beff (oStore base 6 H t5 v13) fun v14 h15 =>
 law04_TellerDeep_j2 base t0 t1 t5 t6 h15)
 (bnd (oBin .eql 6 v9 (.int .u8 1)) fun v17 =>
 cnd v17
 (bnd (oLoad true 6 H t5) fun v18 =>
 bnd (oBuild [(.int .i64 0), (.str []), .nils, (.int .i64 0), (.int .i64 0), .nils] [(0, 1), (1, 1), (2, 1), (3, 1), (4, 1), (5, 1)] [(0, (.int .i64 5))]) fun v19 =>
 bnd (oLit 6 2 (.agg [(.int .i64 0), (.str []), (.vs []), (.int .i64 0), (.int .i64 0), (.vs [])]) [(0, v18), (1, v19)]) fun v20 =>
 bnd (oBuild [(.int .i64 0), (.str []), .nils, (.int .i64 0), (.int .i64 0), .nils] [(0, 1), (1, 1), (2, 1), (3, 1), (4, 1), (5, 1)] [(0, (.int .i64 1)), (5, v20)]) fun v21 =>
 beff (oStore base 6 H t5 v21) fun v22 h23 =>
 law04_TellerDeep_j2 base t0 t1 t5 t6 h23)
 (bnd (oBuild [(.int .i64 0), (.str []), .nils, (.int .i64 0), (.int .i64 0), .nils] [(0, 1), (1, 1), (2, 1), (3, 1), (4, 1), (5, 1)] [(0, (.int .i64 5))]) fun v24 =>
 bnd (oLoad true 6 H t5) fun v25 =>
 bnd (oLit 6 2 (.agg [(.int .i64 0), (.str []), (.vs []), (.int .i64 0), (.int .i64 0), (.vs [])]) [(0, v24), (1, v25)]) fun v26 =>
 bnd (oBuild [(.int .i64 0), (.str []), .nils, (.int .i64 0), (.int .i64 0), .nils] [(0, 1), (1, 1), (2, 1), (3, 1), (4, 1), (5, 1)] [(0, (.int .i64 2)), (5, v26)]) fun v27 =>
 beff (oStore base 6 H t5 v27) fun v28 h29 =>
 law04_TellerDeep_j2 base t0 t1 t5 t6 h29)))
 (bcall (E n_law04_awake [] H) (fun v30 h31 =>
 bnd (gua v30 true (oLoad true 6 h31 t5) (some (.tup []))) fun v32 =>
 bnd (gua v30 true (oBuild [(.str []), (.bool false), (.int .i64 0), (.str []), .nils, (.int .i64 0), (.int .i64 0), .nils] [(0, 1), (1, 1), (2, 6)] [(0, (.str [97])), (2, v32)]) (some (.tup []))) fun v33 =>
 bnd (gua v30 true (oLit 8 1 (.agg [(.str []), (.bool false), (.int .i64 0), (.str []), (.vs []), (.int .i64 0), (.int .i64 0), (.vs [])]) [(0, v33)]) (some (.tup []))) fun v34 =>
 bcall (gua v30 true (E n_law04_same [v34] h31) (some (.ret (.tup []), h31))) (fun v35 h36 =>
 bnd (oPick v30 v35 (.bool false)) fun v37 =>
 rt false base v37 h36)
 (fun v35 h36 => pn false base v35 h36))
 (fun v30 h31 => pn false base v30 h31)) := (loop_eq (cAt [1, 1, 0, 1, 0, 0] law04_TellerDeep_c) ((blockK 0 ((seqK (fun _ t => law04_TellerDeep_C base (cAt [1, 1, 1] law04_TellerDeep_c) (law04_TellerDeep_e base) (trimA law04_TellerDeep_ks (cAt [1, 1, 1] law04_TellerDeep_c) t)) (law04_TellerDeep_e base))))) _ H []).trans (by kernel_rfl)
def law04_TellerDeep (base : Nat) (t0 t1 : V) (H : Heap) : Option (Out × Heap) := law04_TellerDeep_C base law04_TellerDeep_c (law04_TellerDeep_e base) [(0, t0), (1, t1)] H []
theorem law04_TellerDeep_eq (base : Nat) (t0 t1 : V) (H : Heap) : law04_TellerDeep base t0 t1 H =
 bnd (oBuild [(.int .i64 0), (.str []), .nils, (.int .i64 0), (.int .i64 0), .nils] [(0, 1), (1, 1), (2, 1), (3, 1), (4, 1), (5, 1)] [(0, (.int .i64 5)), (1, (.str [120]))]) fun v0 =>
 beff (oVar H (.agg [(.int .i64 0), (.str []), .nils, (.int .i64 0), (.int .i64 0), .nils])) fun v1 h2 =>
 beff (oStore base 6 h2 v1 v0) fun v3 h4 =>
 law04_TellerDeep_l1 base t0 t1 v1 (.int .i64 0) h4 := by kernel_rfl
theorem law04_TellerDeep_E (t0 t1 : V) (H : Heap) : E n_law04_TellerDeep [t0, t1] H = law04_TellerDeep H.length t0 t1 H := (EV_at Tryd.func5 (by kernel_rfl) (by kernel_rfl) (by kernel_rfl)).trans (by kernel_rfl)

def law04_TellerNames_c : Code := bodyOf Tryd.f7
def law04_TellerNames_ks : Ks := []
def law04_TellerNames_e (base : Nat) : KC (Out × Heap) := xEnd Tryd.prog D false base 24 Tryd.f7.results.toList
def law04_TellerNames_C (base : Nat) (c : Code) (k : KC (Out × Heap)) (t : Ts) (H : Heap) (d : Ds) : Option (Out × Heap) := xC Tryd.prog base false law04_TellerNames_ks E 24 c k t H d
def law04_TellerNames (base : Nat) (t0 t1 : V) (H : Heap) : Option (Out × Heap) := law04_TellerNames_C base law04_TellerNames_c (law04_TellerNames_e base) [(0, t0), (1, t1)] H []
theorem law04_TellerNames_eq (base : Nat) (t0 t1 : V) (H : Heap) : law04_TellerNames base t0 t1 H =
 bnd (oLit 1 9 (.str []) [(0, (.str [97])), (1, (.str [122])), (2, (.str [49])), (3, (.str [45])), (4, (.str [65])), (5, (.str [98, 57])), (6, (.str [95])), (7, (.str [46])), (8, (.str [97, 98, 99, 100, 101, 102, 103, 104, 105, 106]))]) fun v0 =>
 bcall (E n_law03_Pieces [t1, v0] H) (fun v1 h2 =>
 bcall (E n_law04_awake [] h2) (fun v3 h4 =>
 bnd (gua v3 true (oMove t0) (some (.tup []))) fun v5 =>
 bcall (gua v3 true (E n_teller_Name [v5] h4) (some (.ret (.tup []), h4))) (fun v6 h7 =>
 bnd (gua v3 true (oMove t0) (some (.tup []))) fun v8 =>
 bcall (gua v3 true (E n_ref04_Name [v8] h7) (some (.ret (.tup []), h7))) (fun v9 h10 =>
 bnd (gua v3 true (oBin .eql 0 v6 v9) (some (.tup []))) fun v11 =>
 bnd (oPick v3 v11 (.bool false)) fun v12 =>
 bnd (gua v12 true (oMove v1) (some (.tup []))) fun v13 =>
 bcall (gua v12 true (E n_teller_Name [v13] h10) (some (.ret (.tup []), h10))) (fun v14 h15 =>
 bnd (gua v12 true (oMove v1) (some (.tup []))) fun v16 =>
 bcall (gua v12 true (E n_ref04_Name [v16] h15) (some (.ret (.tup []), h15))) (fun v17 h18 =>
 bnd (gua v12 true (oBin .eql 0 v14 v17) (some (.tup []))) fun v19 =>
 bnd (oPick v12 v19 (.bool false)) fun v20 =>
 rt false base v20 h18)
 (fun v17 h18 => pn false base v17 h18))
 (fun v14 h15 => pn false base v14 h15))
 (fun v9 h10 => pn false base v9 h10))
 (fun v6 h7 => pn false base v6 h7))
 (fun v3 h4 => pn false base v3 h4))
 (fun v1 h2 => pn false base v1 h2) := by kernel_rfl
theorem law04_TellerNames_E (t0 t1 : V) (H : Heap) : E n_law04_TellerNames [t0, t1] H = law04_TellerNames H.length t0 t1 H := (EV_at Tryd.func7 (by kernel_rfl) (by kernel_rfl) (by kernel_rfl)).trans (by kernel_rfl)

def law04_TellerRepeats_c : Code := bodyOf Tryd.f8
def law04_TellerRepeats_ks : Ks := []
def law04_TellerRepeats_e (base : Nat) : KC (Out × Heap) := xEnd Tryd.prog D false base 54 Tryd.f8.results.toList
def law04_TellerRepeats_C (base : Nat) (c : Code) (k : KC (Out × Heap)) (t : Ts) (H : Heap) (d : Ds) : Option (Out × Heap) := xC Tryd.prog base false law04_TellerRepeats_ks E 54 c k t H d
def law04_TellerRepeats (base : Nat) (t0 t1 t2 t3 : V) (H : Heap) : Option (Out × Heap) := law04_TellerRepeats_C base law04_TellerRepeats_c (law04_TellerRepeats_e base) [(0, t0), (1, t1), (2, t2), (3, t3)] H []
theorem law04_TellerRepeats_eq (base : Nat) (t0 t1 t2 t3 : V) (H : Heap) : law04_TellerRepeats base t0 t1 t2 t3 H =
 bnd (oLit 1 2 (.int .i64 0) [(0, t2), (1, t3)]) fun v0 =>
 bnd (oBuild [(.int .i64 0), (.str []), .nils, (.int .i64 0), (.int .i64 0), .nils] [(0, 1), (1, 1), (2, 1), (3, 1), (4, 1), (5, 1)] [(0, (.int .i64 6)), (2, v0)]) fun v1 =>
 beff (oVar H (.agg [(.int .i64 0), (.str []), .nils, (.int .i64 0), (.int .i64 0), .nils])) fun v2 h3 =>
 beff (oStore base 6 h3 v2 v1) fun v4 h5 =>
 bnd (oLit 1 2 (.int .i64 0) [(0, t2), (1, t3)]) fun v6 =>
 bnd (oBuild [(.int .i64 0), (.str []), .nils, (.int .i64 0), (.int .i64 0), .nils] [(0, 1), (1, 1), (2, 1), (3, 1), (4, 1), (5, 1)] [(0, (.int .i64 7)), (2, v6)]) fun v7 =>
 beff (oVar h5 (.agg [(.int .i64 0), (.str []), .nils, (.int .i64 0), (.int .i64 0), .nils])) fun v8 h9 =>
 beff (oStore base 6 h9 v8 v7) fun v10 h11 =>
 bnd (oBuild [(.int .i64 0), (.str []), .nils, (.int .i64 0), (.int .i64 0), .nils] [(0, 1), (1, 1), (2, 1), (3, 1), (4, 1), (5, 1)] [(0, (.int .i64 4)), (1, (.str [97]))]) fun v12 =>
 bnd (oLit 6 1 (.agg [(.int .i64 0), (.str []), (.vs []), (.int .i64 0), (.int .i64 0), (.vs [])]) [(0, v12)]) fun v13 =>
 bnd (oBuild [(.int .i64 0), (.str []), .nils, (.int .i64 0), (.int .i64 0), .nils] [(0, 1), (1, 1), (2, 1), (3, 1), (4, 1), (5, 1)] [(0, (.int .i64 3)), (3, t0), (4, t1), (5, v13)]) fun v14 =>
 beff (oVar h11 (.agg [(.int .i64 0), (.str []), .nils, (.int .i64 0), (.int .i64 0), .nils])) fun v15 h16 =>
 beff (oStore base 6 h16 v15 v14) fun v17 h18 =>
 bcall (E n_law04_awake [] h18) (fun v19 h20 =>
 bnd (gua v19 true (oLoad true 6 h20 v2) (some (.tup []))) fun v21 =>
 bnd (gua v19 true (oBuild [(.str []), (.bool false), (.int .i64 0), (.str []), .nils, (.int .i64 0), (.int .i64 0), .nils] [(0, 1), (1, 1), (2, 6)] [(0, (.str [97])), (2, v21)]) (some (.tup []))) fun v22 =>
 bnd (gua v19 true (oLit 8 1 (.agg [(.str []), (.bool false), (.int .i64 0), (.str []), (.vs []), (.int .i64 0), (.int .i64 0), (.vs [])]) [(0, v22)]) (some (.tup []))) fun v23 =>
 bcall (gua v19 true (E n_law04_same [v23] h20) (some (.ret (.tup []), h20))) (fun v24 h25 =>
 bnd (oPick v19 v24 (.bool false)) fun v26 =>
 bnd (gua v26 true (oLoad true 6 h25 v8) (some (.tup []))) fun v27 =>
 bnd (gua v26 true (oBuild [(.str []), (.bool false), (.int .i64 0), (.str []), .nils, (.int .i64 0), (.int .i64 0), .nils] [(0, 1), (1, 1), (2, 6)] [(0, (.str [97])), (2, v27)]) (some (.tup []))) fun v28 =>
 bnd (gua v26 true (oLit 8 1 (.agg [(.str []), (.bool false), (.int .i64 0), (.str []), (.vs []), (.int .i64 0), (.int .i64 0), (.vs [])]) [(0, v28)]) (some (.tup []))) fun v29 =>
 bcall (gua v26 true (E n_law04_same [v29] h25) (some (.ret (.tup []), h25))) (fun v30 h31 =>
 bnd (oPick v26 v30 (.bool false)) fun v32 =>
 bnd (gua v32 true (oLoad true 6 h31 v15) (some (.tup []))) fun v33 =>
 bnd (gua v32 true (oBuild [(.str []), (.bool false), (.int .i64 0), (.str []), .nils, (.int .i64 0), (.int .i64 0), .nils] [(0, 1), (1, 1), (2, 6)] [(0, (.str [97])), (2, v33)]) (some (.tup []))) fun v34 =>
 bnd (gua v32 true (oLit 8 1 (.agg [(.str []), (.bool false), (.int .i64 0), (.str []), (.vs []), (.int .i64 0), (.int .i64 0), (.vs [])]) [(0, v34)]) (some (.tup []))) fun v35 =>
 bcall (gua v32 true (E n_law04_same [v35] h31) (some (.ret (.tup []), h31))) (fun v36 h37 =>
 bnd (oPick v32 v36 (.bool false)) fun v38 =>
 bnd (gua v38 true (oMove t1) (some (.tup []))) fun v39 =>
 bnd (gua v38 true (oMove t0) (some (.tup []))) fun v40 =>
 bnd (gua v38 true (oLoad true 6 h37 v15) (some (.tup []))) fun v41 =>
 bnd (gua v38 true (oLit 6 1 (.agg [(.int .i64 0), (.str []), (.vs []), (.int .i64 0), (.int .i64 0), (.vs [])]) [(0, v41)]) (some (.tup []))) fun v42 =>
 bnd (gua v38 true (oBuild [(.int .i64 0), (.str []), .nils, (.int .i64 0), (.int .i64 0), .nils] [(0, 1), (1, 1), (2, 1), (3, 1), (4, 1), (5, 1)] [(0, (.int .i64 3)), (3, v39), (4, v40), (5, v42)]) (some (.tup []))) fun v43 =>
 bnd (gua v38 true (oBuild [(.str []), (.bool false), (.int .i64 0), (.str []), .nils, (.int .i64 0), (.int .i64 0), .nils] [(0, 1), (1, 1), (2, 6)] [(0, (.str [97])), (2, v43)]) (some (.tup []))) fun v44 =>
 bnd (gua v38 true (oLit 8 1 (.agg [(.str []), (.bool false), (.int .i64 0), (.str []), (.vs []), (.int .i64 0), (.int .i64 0), (.vs [])]) [(0, v44)]) (some (.tup []))) fun v45 =>
 bcall (gua v38 true (E n_law04_same [v45] h37) (some (.ret (.tup []), h37))) (fun v46 h47 =>
 bnd (oPick v38 v46 (.bool false)) fun v48 =>
 rt false base v48 h47)
 (fun v46 h47 => pn false base v46 h47))
 (fun v36 h37 => pn false base v36 h37))
 (fun v30 h31 => pn false base v30 h31))
 (fun v24 h25 => pn false base v24 h25))
 (fun v19 h20 => pn false base v19 h20) := by kernel_rfl
theorem law04_TellerRepeats_E (t0 t1 t2 t3 : V) (H : Heap) : E n_law04_TellerRepeats [t0, t1, t2, t3] H = law04_TellerRepeats H.length t0 t1 t2 t3 H := (EV_at Tryd.func8 (by kernel_rfl) (by kernel_rfl) (by kernel_rfl)).trans (by kernel_rfl)

def law04_awake_c : Code := bodyOf Tryd.f9
def law04_awake_ks : Ks := []
def law04_awake_e (base : Nat) : KC (Out × Heap) := xEnd Tryd.prog D false base 50 Tryd.f9.results.toList
def law04_awake_C (base : Nat) (c : Code) (k : KC (Out × Heap)) (t : Ts) (H : Heap) (d : Ds) : Option (Out × Heap) := xC Tryd.prog base false law04_awake_ks E 50 c k t H d
def law04_awake (base : Nat) (H : Heap) : Option (Out × Heap) := law04_awake_C base law04_awake_c (law04_awake_e base) [] H []
theorem law04_awake_eq (base : Nat) (H : Heap) : law04_awake base  H =
 bnd (oBuild [(.int .i64 0), (.str []), .nils, (.int .i64 0), (.int .i64 0), .nils] [(0, 1), (1, 1), (2, 1), (3, 1), (4, 1), (5, 1)] [(0, (.int .i64 4)), (1, (.str [98]))]) fun v0 =>
 bnd (oLit 6 1 (.agg [(.int .i64 0), (.str []), (.vs []), (.int .i64 0), (.int .i64 0), (.vs [])]) [(0, v0)]) fun v1 =>
 bnd (oBuild [(.int .i64 0), (.str []), .nils, (.int .i64 0), (.int .i64 0), .nils] [(0, 1), (1, 1), (2, 1), (3, 1), (4, 1), (5, 1)] [(0, (.int .i64 3)), (3, (.int .i64 1)), (4, (.int .i64 2)), (5, v1)]) fun v2 =>
 beff (oVar H (.agg [(.int .i64 0), (.str []), .nils, (.int .i64 0), (.int .i64 0), .nils])) fun v3 h4 =>
 beff (oStore base 6 h4 v3 v2) fun v5 h6 =>
 bnd (oLoad true 6 h6 v3) fun v7 =>
 bnd (oBuild [(.int .i64 0), (.str []), .nils, (.int .i64 0), (.int .i64 0), .nils] [(0, 1), (1, 1), (2, 1), (3, 1), (4, 1), (5, 1)] [(0, (.int .i64 5)), (1, (.str [99]))]) fun v8 =>
 bnd (oLit 6 2 (.agg [(.int .i64 0), (.str []), (.vs []), (.int .i64 0), (.int .i64 0), (.vs [])]) [(0, v7), (1, v8)]) fun v9 =>
 bnd (oBuild [(.int .i64 0), (.str []), .nils, (.int .i64 0), (.int .i64 0), .nils] [(0, 1), (1, 1), (2, 1), (3, 1), (4, 1), (5, 1)] [(0, (.int .i64 1)), (5, v9)]) fun v10 =>
 beff (oVar h6 (.agg [(.int .i64 0), (.str []), .nils, (.int .i64 0), (.int .i64 0), .nils])) fun v11 h12 =>
 beff (oStore base 6 h12 v11 v10) fun v13 h14 =>
 bnd (oLoad true 6 h14 v11) fun v15 =>
 bnd (oBuild [(.str []), (.bool false), (.int .i64 0), (.str []), .nils, (.int .i64 0), (.int .i64 0), .nils] [(0, 1), (1, 1), (2, 6)] [(0, (.str [97])), (2, v15)]) fun v16 =>
 bnd (oLit 8 1 (.agg [(.str []), (.bool false), (.int .i64 0), (.str []), (.vs []), (.int .i64 0), (.int .i64 0), (.vs [])]) [(0, v16)]) fun v17 =>
 bcall (E n_teller_Tell [v17] h14) (fun v18 h19 =>
 bnd (oExtract v18 0) fun v20 =>
 bnd (oExtract v18 1) fun v21 =>
 bnd (oLoad true 6 h19 v11) fun v22 =>
 bnd (oBuild [(.str []), (.bool false), (.int .i64 0), (.str []), .nils, (.int .i64 0), (.int .i64 0), .nils] [(0, 1), (1, 1), (2, 6)] [(0, (.str [65])), (2, v22)]) fun v23 =>
 bnd (oLit 8 1 (.agg [(.str []), (.bool false), (.int .i64 0), (.str []), (.vs []), (.int .i64 0), (.int .i64 0), (.vs [])]) [(0, v23)]) fun v24 =>
 bcall (E n_teller_Tell [v24] h19) (fun v25 h26 =>
 bnd (oExtract v25 0) fun v27 =>
 bnd (oExtract v25 1) fun v28 =>
 bnd (oBin .eql 6 v21 (.int .i64 0)) fun v29 =>
 bnd (gua v29 true (oMove v20) (some (.tup []))) fun v30 =>
 bnd (gua v29 true (oBin .eql 6 v30 (.str [97, 32, 61, 32, 49, 42, 50, 98, 32, 47, 32, 34, 99, 34, 10])) (some (.tup []))) fun v31 =>
 bnd (oPick v29 v31 (.bool false)) fun v32 =>
 bnd (gua v32 true (oMove v28) (some (.tup []))) fun v33 =>
 bnd (gua v32 true (oBin .eql 6 v33 (.int .i64 1)) (some (.tup []))) fun v34 =>
 bnd (oPick v32 v34 (.bool false)) fun v35 =>
 bnd (gua v35 true (oLoad true 6 h26 v11) (some (.tup []))) fun v36 =>
 bcall (gua v35 true (E n_teller_Right [v36] h26) (some (.ret (.tup []), h26))) (fun v37 h38 =>
 bnd (oPick v35 v37 (.bool false)) fun v39 =>
 bnd (gua v39 true (oBuild [(.int .i64 0), (.str []), .nils, (.int .i64 0), (.int .i64 0), .nils] [(0, 1), (1, 1), (2, 1), (3, 1), (4, 1), (5, 1)] []) (some (.tup []))) fun v40 =>
 bcall (gua v39 true (E n_teller_Right [v40] h38) (some (.ret (.tup []), h38))) (fun v41 h42 =>
 bnd (gua v39 true (oUn .not v41) (some (.tup []))) fun v43 =>
 bnd (oPick v39 v43 (.bool false)) fun v44 =>
 bcall (gua v44 true (E n_teller_Name [(.str [97, 45, 49])] h42) (some (.ret (.tup []), h42))) (fun v45 h46 =>
 bnd (oPick v44 v45 (.bool false)) fun v47 =>
 rt false base v47 h46)
 (fun v45 h46 => pn false base v45 h46))
 (fun v41 h42 => pn false base v41 h42))
 (fun v37 h38 => pn false base v37 h38))
 (fun v25 h26 => pn false base v25 h26))
 (fun v18 h19 => pn false base v18 h19) := by kernel_rfl
theorem law04_awake_E (H : Heap) : E n_law04_awake [] H = law04_awake H.length  H := (EV_at Tryd.func9 (by kernel_rfl) (by kernel_rfl) (by kernel_rfl)).trans (by kernel_rfl)

def law04_Weight_c : Code := bodyOf Tryd.f10
def law04_Weight_ks : Ks := [(3, [0, 3, 4])]
def law04_Weight_e (base : Nat) : KC (Out × Heap) := xEnd Tryd.prog D false base 29 Tryd.f10.results.toList
def law04_Weight_C (base : Nat) (c : Code) (k : KC (Out × Heap)) (t : Ts) (H : Heap) (d : Ds) : Option (Out × Heap) := xC Tryd.prog base false law04_Weight_ks E 29 c k t H d
def law04_Weight_l1 (base : Nat) (t0 t3 t4 : V) (H : Heap) : Option (Out × Heap) :=
iterL (fun t H d again => law04_Weight_C base (cAt [1, 1, 0, 1, 0, 0] law04_Weight_c) (loopK law04_Weight_ks (cAt [1, 1, 0, 1, 0, 0] law04_Weight_c) again ((blockK 0 ((seqK (fun _ t => law04_Weight_C base (cAt [1, 1, 1] law04_Weight_c) (law04_Weight_e base) (trimA law04_Weight_ks (cAt [1, 1, 1] law04_Weight_c) t)) (law04_Weight_e base)))))) t H d) [(0, t0), (3, t3), (4, t4)] H []
theorem law04_Weight_l1_eq (base : Nat) (t0 t3 t4 : V) (H : Heap) : law04_Weight_l1 base t0 t3 t4 H =
 bnd (oLenSl t0) fun v0 =>
 bnd (oBin .lss 6 t4 v0) fun v1 =>
 cnd v1
 (bnd (oBin .add 6 t3 (.int .i64 1)) fun v2 =>
 bnd (oIndexPtr 8 t0 t4) fun v3 =>
 bnd (oFieldPtr v3 0) fun v4 =>
 bnd (oLoad false 1 H v4) fun v5 =>
 bnd (oLenStr v5) fun v6 =>
 bnd (oBin .add 6 v2 v6) fun v7 =>
 bnd (oIndexPtr 8 t0 t4) fun v8 =>
 bnd (oFieldPtr v8 2) fun v9 =>
 bnd (oLoad true 6 H v9) fun v10 =>
 bnd (oLit 6 1 (.agg [(.int .i64 0), (.str []), (.vs []), (.int .i64 0), (.int .i64 0), (.vs [])]) [(0, v10)]) fun v11 =>
 bcall (E n_law04_weight [v11] H) (fun v12 h13 =>
 sch (sam (oLoad false 1 h13 v4) v5) (
 bnd (oBin .add 6 v7 v12) fun v14 =>
 bnd (oBin .add 6 t4 (.int .i64 1)) fun v15 =>
 law04_Weight_l1 base t0 v14 v15 h13))
 (fun v12 h13 => pn false base v12 h13))
 (rt false base t3 H) := (loop_eq (cAt [1, 1, 0, 1, 0, 0] law04_Weight_c) ((blockK 0 ((seqK (fun _ t => law04_Weight_C base (cAt [1, 1, 1] law04_Weight_c) (law04_Weight_e base) (trimA law04_Weight_ks (cAt [1, 1, 1] law04_Weight_c) t)) (law04_Weight_e base))))) _ H []).trans (by kernel_rfl)
def law04_Weight (base : Nat) (t0 : V) (H : Heap) : Option (Out × Heap) := law04_Weight_C base law04_Weight_c (law04_Weight_e base) [(0, t0)] H []
theorem law04_Weight_eq (base : Nat) (t0 : V) (H : Heap) : law04_Weight base t0 H =
 law04_Weight_l1 base t0 (.int .i64 0) (.int .i64 0) H := by kernel_rfl
theorem law04_Weight_E (t0 : V) (H : Heap) : E n_law04_Weight [t0] H = law04_Weight H.length t0 H := (EV_at Tryd.func10 (by kernel_rfl) (by kernel_rfl) (by kernel_rfl)).trans (by kernel_rfl)

def law04_same_c : Code := bodyOf Tryd.f11
def law04_same_ks : Ks := [(4, [0, 3, 4, 5, 6, 7])]
def law04_same_e (base : Nat) : KC (Out × Heap) := xEnd Tryd.prog D false base 60 Tryd.f11.results.toList
def law04_same_C (base : Nat) (c : Code) (k : KC (Out × Heap)) (t : Ts) (H : Heap) (d : Ds) : Option (Out × Heap) := xC Tryd.prog base false law04_same_ks E 60 c k t H d
def law04_same_l1 (base : Nat) (t0 t3 t4 t5 t6 t7 : V) (H : Heap) : Option (Out × Heap) :=
iterL (fun t H d again => law04_same_C base (cAt [1, 1, 1, 0, 1, 0, 0] law04_same_c) (loopK law04_same_ks (cAt [1, 1, 1, 0, 1, 0, 0] law04_same_c) again ((blockK 0 ((seqK (fun _ t => law04_same_C base (cAt [1, 1, 1, 1] law04_same_c) (law04_same_e base) (trimA law04_same_ks (cAt [1, 1, 1, 1] law04_same_c) t)) (law04_same_e base)))))) t H d) [(0, t0), (3, t3), (4, t4), (5, t5), (6, t6), (7, t7)] H []
theorem law04_same_l1_eq (base : Nat) (t0 t3 t4 t5 t6 t7 : V) (H : Heap) : law04_same_l1 base t0 t3 t4 t5 t6 t7 H =
 bnd (oLenSl t0) fun v8 =>
 bnd (oBin .lss 6 t7 v8) fun v9 =>
 cnd v9
 (bnd (oIndexPtr 8 t0 t7) fun v10 =>
 bnd (oFieldPtr v10 0) fun v11 =>
 bnd (oLoad false 1 H v11) fun v12 =>
 bcall (E n_teller_Name [v12] H) (fun v13 h14 =>
 bnd (oIndexPtr 8 t0 t7) fun v15 =>
 bnd (oFieldPtr v15 0) fun v16 =>
 bnd (bnd (oLoad false 1 h14 v16) fun v17 => sch (sam (oLoad false 1 H v16) v17) (
 some v17)) fun v17 =>
 bcall (E n_ref04_Name [v17] h14) (fun v18 h19 =>
 bnd (oBin .neq 0 v13 v18) fun v20 =>
 bnd (gua v20 false (oMove t0) (some (.tup []))) fun v21 =>
 bnd (gua v20 false (oMove t7) (some (.tup []))) fun v22 =>
 bnd (gua v20 false (oIndexPtr 8 v21 v22) (some (.tup []))) fun v23 =>
 bnd (gua v20 false (oFieldPtr v23 2) (some (.tup []))) fun v24 =>
 bnd (gua v20 false (oLoad true 6 h19 v24) (some (.tup []))) fun v25 =>
 bcall (gua v20 false (E n_teller_Right [v25] h19) (some (.ret (.tup []), h19))) (fun v26 h27 =>
 bnd (gua v20 false (oMove t0) (some (.tup []))) fun v28 =>
 bnd (gua v20 false (oMove t7) (some (.tup []))) fun v29 =>
 bnd (gua v20 false (oIndexPtr 8 v28 v29) (some (.tup []))) fun v30 =>
 bnd (gua v20 false (oFieldPtr v30 2) (some (.tup []))) fun v31 =>
 bnd (gua v20 false (bnd (oLoad true 6 h27 v31) fun v32 => sch (sam (oLoad true 6 h19 v31) v32) (
 some v32)) (some (.tup []))) fun v32 =>
 bcall (gua v20 false (E n_ref04_Right [v32, (.int .i64 50)] h27) (some (.ret (.tup []), h27))) (fun v33 h34 =>
 bnd (gua v20 false (oBin .neq 0 v26 v33) (some (.tup []))) fun v35 =>
 bnd (oPick v20 (.bool true) v35) fun v36 =>
 cnd v36
 (rt false base (.bool false) h34)
 (bnd (oBin .add 6 t7 (.int .i64 1)) fun v37 =>
 law04_same_l1 base t0 t3 t4 t5 t6 v37 h34))
 (fun v33 h34 => pn false base v33 h34))
 (fun v26 h27 => sch (tlb (gua v20 false (oMove t0) (some (.tup []))) fun v38 => tlb (gua v20 false (oMove t7) (some (.tup []))) fun v39 => tlb (gua v20 false (oIndexPtr 8 v38 v39) (some (.tup []))) fun v40 => tlb (gua v20 false (oFieldPtr v40 2) (some (.tup []))) fun v41 => tlb (gua v20 false (oLoad true 6 h19 v41) (some (.tup []))) fun v42 => true) (pn false base v26 h27)))
 (fun v18 h19 => pn false base v18 h19))
 (fun v13 h14 => sch (tlb (oMove t0) fun v43 => tlb (oMove t7) fun v44 => tlb (oIndexPtr 8 v43 v44) fun v45 => tlb (oFieldPtr v45 0) fun v46 => tlb (oLoad false 1 H v46) fun v47 => true) (pn false base v13 h14)))
 (bnd (oBin .eql 6 t3 t5) fun v48 =>
 bnd (gua v48 true (oMove t4) (some (.tup []))) fun v49 =>
 bnd (gua v48 true (oMove t6) (some (.tup []))) fun v50 =>
 bnd (gua v48 true (oBin .eql 6 v49 v50) (some (.tup []))) fun v51 =>
 bnd (oPick v48 v51 (.bool false)) fun v52 =>
 rt false base v52 H) := (loop_eq (cAt [1, 1, 1, 0, 1, 0, 0] law04_same_c) ((blockK 0 ((seqK (fun _ t => law04_same_C base (cAt [1, 1, 1, 1] law04_same_c) (law04_same_e base) (trimA law04_same_ks (cAt [1, 1, 1, 1] law04_same_c) t)) (law04_same_e base))))) _ H []).trans (by kernel_rfl)
def law04_same (base : Nat) (t0 : V) (H : Heap) : Option (Out × Heap) := law04_same_C base law04_same_c (law04_same_e base) [(0, t0)] H []
theorem law04_same_eq (base : Nat) (t0 : V) (H : Heap) : law04_same base t0 H =
 bcall (E n_teller_Tell [t0] H) (fun v0 h1 =>
 bnd (oExtract v0 0) fun v2 =>
 bnd (oExtract v0 1) fun v3 =>
 bcall (E n_ref04_Tell [t0] h1) (fun v4 h5 =>
 bnd (oExtract v4 0) fun v6 =>
 bnd (oExtract v4 1) fun v7 =>
 law04_same_l1 base t0 v2 v3 v6 v7 (.int .i64 0) h5)
 (fun v4 h5 => pn false base v4 h5))
 (fun v0 h1 => pn false base v0 h1) := by kernel_rfl
theorem law04_same_E (t0 : V) (H : Heap) : E n_law04_same [t0] H = law04_same H.length t0 H := (EV_at Tryd.func11 (by kernel_rfl) (by kernel_rfl) (by kernel_rfl)).trans (by kernel_rfl)

def law03_Pieces_c : Code := bodyOf Tryd.f16
def law03_Pieces_ks : Ks := [(3, [0, 1, 5, 6])]
def law03_Pieces_e (base : Nat) : KC (Out × Heap) := xEnd Tryd.prog D false base 31 Tryd.f16.results.toList
def law03_Pieces_C (base : Nat) (c : Code) (k : KC (Out × Heap)) (t : Ts) (H : Heap) (d : Ds) : Option (Out × Heap) := xC Tryd.prog base false law03_Pieces_ks E 31 c k t H d
def law03_Pieces_l1 (base : Nat) (t0 t1 t5 t6 : V) (H : Heap) : Option (Out × Heap) :=
iterL (fun t H d again => law03_Pieces_C base (cAt [1, 1, 0, 1, 0, 0] law03_Pieces_c) (loopK law03_Pieces_ks (cAt [1, 1, 0, 1, 0, 0] law03_Pieces_c) again ((blockK 0 ((seqK (fun _ t => law03_Pieces_C base (cAt [1, 1, 1] law03_Pieces_c) (law03_Pieces_e base) (trimA law03_Pieces_ks (cAt [1, 1, 1] law03_Pieces_c) t)) (law03_Pieces_e base)))))) t H d) [(0, t0), (1, t1), (5, t5), (6, t6)] H []
theorem law03_Pieces_l1_eq (base : Nat) (t0 t1 t5 t6 : V) (H : Heap) : law03_Pieces_l1 base t0 t1 t5 t6 H =
 bnd (oLenSl t0) fun v0 =>
 bnd (oBin .lss 6 t6 v0) fun v1 =>
 bnd (gua v1 true (oMove t6) (some (.tup []))) fun v2 =>
 bnd (gua v1 true (oBin .lss 6 v2 (.int .i64 14)) (some (.tup []))) fun v3 =>
 bnd (oPick v1 v3 (.bool false)) fun v4 =>
 cnd v4
 (bnd (oIndexPtr 1 t0 t6) fun v5 =>
 bnd (oLoad false 1 H v5) fun v6 =>
 bnd (oIntTo .i64 v6) fun v7 =>
 bnd (oLenSl t1) fun v8 =>
 bnd (oBin .rem 6 v7 v8) fun v9 =>
 bnd (oIndexPtr 1 t1 v9) fun v10 =>
 bnd (oLoad false 1 H v10) fun v11 =>
 bnd (oBin .add 6 t5 v11) fun v12 =>
 bnd (oBin .add 6 t6 (.int .i64 1)) fun v13 =>
 law03_Pieces_l1 base t0 t1 v12 v13 H)
 (rt false base t5 H) := (loop_eq (cAt [1, 1, 0, 1, 0, 0] law03_Pieces_c) ((blockK 0 ((seqK (fun _ t => law03_Pieces_C base (cAt [1, 1, 1] law03_Pieces_c) (law03_Pieces_e base) (trimA law03_Pieces_ks (cAt [1, 1, 1] law03_Pieces_c) t)) (law03_Pieces_e base))))) _ H []).trans (by kernel_rfl)
def law03_Pieces (base : Nat) (t0 t1 : V) (H : Heap) : Option (Out × Heap) := law03_Pieces_C base law03_Pieces_c (law03_Pieces_e base) [(0, t0), (1, t1)] H []
theorem law03_Pieces_eq (base : Nat) (t0 t1 : V) (H : Heap) : law03_Pieces base t0 t1 H =
 law03_Pieces_l1 base t0 t1 (.str []) (.int .i64 0) H := by kernel_rfl
theorem law03_Pieces_E (t0 t1 : V) (H : Heap) : E n_law03_Pieces [t0, t1] H = law03_Pieces H.length t0 t1 H := (EV_at Tryd.func16 (by kernel_rfl) (by kernel_rfl) (by kernel_rfl)).trans (by kernel_rfl)

def teller_Name_c : Code := bodyOf Tryd.f17
def teller_Name_ks : Ks := []
def teller_Name_e (base : Nat) : KC (Out × Heap) := xEnd Tryd.prog D false base 20 Tryd.f17.results.toList
def teller_Name_C (base : Nat) (c : Code) (k : KC (Out × Heap)) (t : Ts) (H : Heap) (d : Ds) : Option (Out × Heap) := xC Tryd.prog base false teller_Name_ks E 20 c k t H d
def teller_Name (base : Nat) (t0 : V) (H : Heap) : Option (Out × Heap) := teller_Name_C base teller_Name_c (teller_Name_e base) [(0, t0)] H []
theorem teller_Name_eq (base : Nat) (t0 : V) (H : Heap) : teller_Name base t0 H =
 bnd (oBin .neq 6 t0 (.str [])) fun v0 =>
 bnd (gua v0 true (oMove t0) (some (.tup []))) fun v1 =>
 bnd (gua v0 true (oLenStr v1) (some (.tup []))) fun v2 =>
 bnd (gua v0 true (oBin .leq 6 v2 (.int .i64 40)) (some (.tup []))) fun v3 =>
 bnd (oPick v0 v3 (.bool false)) fun v4 =>
 bnd (gua v4 true (oMove t0) (some (.tup []))) fun v5 =>
 bnd (gua v4 true (oIndexStr v5 (.int .i64 0)) (some (.tup []))) fun v6 =>
 bcall (gua v4 true (E n_strings_IndexByte [(.str [97, 98, 99, 100, 101, 102, 103, 104, 105, 106, 107, 108, 109, 110, 111, 112, 113, 114, 115, 116, 117, 118, 119, 120, 121, 122]), v6] H) (some (.ret (.tup []), H))) (fun v7 h8 =>
 bnd (gua v4 true (oBin .geq 6 v7 (.int .i64 0)) (some (.tup []))) fun v9 =>
 bnd (oPick v4 v9 (.bool false)) fun v10 =>
 bnd (gua v10 true (oMove t0) (some (.tup []))) fun v11 =>
 bcall (gua v10 true (E n_teller_plain [v11, (.str [97, 98, 99, 100, 101, 102, 103, 104, 105, 106, 107, 108, 109, 110, 111, 112, 113, 114, 115, 116, 117, 118, 119, 120, 121, 122, 48, 49, 50, 51, 52, 53, 54, 55, 56, 57, 45])] h8) (some (.ret (.tup []), h8))) (fun v12 h13 =>
 bnd (oPick v10 v12 (.bool false)) fun v14 =>
 rt false base v14 h13)
 (fun v12 h13 => pn false base v12 h13))
 (fun v7 h8 => pn false base v7 h8) := by kernel_rfl
theorem teller_Name_E (t0 : V) (H : Heap) : E n_teller_Name [t0] H = teller_Name H.length t0 H := (EV_at Tryd.func17 (by kernel_rfl) (by kernel_rfl) (by kernel_rfl)).trans (by kernel_rfl)

def ref04_Name_c : Code := bodyOf Tryd.f18
def ref04_Name_ks : Ks := [(4, [0, 3])]
def ref04_Name_e (base : Nat) : KC (Out × Heap) := xEnd Tryd.prog D false base 41 Tryd.f18.results.toList
def ref04_Name_C (base : Nat) (c : Code) (k : KC (Out × Heap)) (t : Ts) (H : Heap) (d : Ds) : Option (Out × Heap) := xC Tryd.prog base false ref04_Name_ks E 41 c k t H d
def ref04_Name_l1 (base : Nat) (t0 t3 : V) (H : Heap) : Option (Out × Heap) :=
iterL (fun t H d again => ref04_Name_C base (cAt [1, 1, 0, 1, 0, 0] ref04_Name_c) (loopK ref04_Name_ks (cAt [1, 1, 0, 1, 0, 0] ref04_Name_c) again ((blockK 0 ((seqK (fun _ t => ref04_Name_C base (cAt [1, 1, 1] ref04_Name_c) (ref04_Name_e base) (trimA ref04_Name_ks (cAt [1, 1, 1] ref04_Name_c) t)) (ref04_Name_e base)))))) t H d) [(0, t0), (3, t3)] H []
theorem ref04_Name_l1_eq (base : Nat) (t0 t3 : V) (H : Heap) : ref04_Name_l1 base t0 t3 H =
 bnd (oLenStr t0) fun v11 =>
 bnd (oBin .lss 6 t3 v11) fun v12 =>
 cnd v12
 (bnd (oIndexStr t0 t3) fun v13 =>
 bcall (E n_ref04_letter [v13] H) (fun v14 h15 =>
 bnd (oUn .not v14) fun v16 =>
 bnd (gua v16 true (oMove t0) (some (.tup []))) fun v17 =>
 bnd (gua v16 true (oMove t3) (some (.tup []))) fun v18 =>
 bnd (gua v16 true (oIndexStr v17 v18) (some (.tup []))) fun v19 =>
 bcall (gua v16 true (E n_ref04_digit [v19] h15) (some (.ret (.tup []), h15))) (fun v20 h21 =>
 bnd (gua v16 true (oUn .not v20) (some (.tup []))) fun v22 =>
 bnd (oPick v16 v22 (.bool false)) fun v23 =>
 bnd (gua v23 true (oMove t0) (some (.tup []))) fun v24 =>
 bnd (gua v23 true (oMove t3) (some (.tup []))) fun v25 =>
 bnd (gua v23 true (oIndexStr v24 v25) (some (.tup []))) fun v26 =>
 bnd (gua v23 true (oBin .neq 6 v26 (.int .u8 45)) (some (.tup []))) fun v27 =>
 bnd (oPick v23 v27 (.bool false)) fun v28 =>
 cnd v28
 (rt false base (.bool false) h21)
 (bnd (oBin .add 6 t3 (.int .i64 1)) fun v29 =>
 ref04_Name_l1 base t0 v29 h21))
 (fun v20 h21 => pn false base v20 h21))
 (fun v14 h15 => pn false base v14 h15))
 (rt false base (.bool true) H) := (loop_eq (cAt [1, 1, 0, 1, 0, 0] ref04_Name_c) ((blockK 0 ((seqK (fun _ t => ref04_Name_C base (cAt [1, 1, 1] ref04_Name_c) (ref04_Name_e base) (trimA ref04_Name_ks (cAt [1, 1, 1] ref04_Name_c) t)) (ref04_Name_e base))))) _ H []).trans (by kernel_rfl)
def ref04_Name (base : Nat) (t0 : V) (H : Heap) : Option (Out × Heap) := ref04_Name_C base ref04_Name_c (ref04_Name_e base) [(0, t0)] H []
theorem ref04_Name_eq (base : Nat) (t0 : V) (H : Heap) : ref04_Name base t0 H =
 bnd (oBin .eql 6 t0 (.str [])) fun v0 =>
 bnd (gua v0 false (oMove t0) (some (.tup []))) fun v1 =>
 bnd (gua v0 false (oLenStr v1) (some (.tup []))) fun v2 =>
 bnd (gua v0 false (oBin .gtr 6 v2 (.int .i64 40)) (some (.tup []))) fun v3 =>
 bnd (oPick v0 (.bool true) v3) fun v4 =>
 bnd (gua v4 false (oMove t0) (some (.tup []))) fun v5 =>
 bnd (gua v4 false (oIndexStr v5 (.int .i64 0)) (some (.tup []))) fun v6 =>
 bcall (gua v4 false (E n_ref04_letter [v6] H) (some (.ret (.tup []), H))) (fun v7 h8 =>
 bnd (gua v4 false (oUn .not v7) (some (.tup []))) fun v9 =>
 bnd (oPick v4 (.bool true) v9) fun v10 =>
 cnd v10
 (rt false base (.bool false) h8)
 (ref04_Name_l1 base t0 (.int .i64 0) h8))
 (fun v7 h8 => pn false base v7 h8) := by kernel_rfl
theorem ref04_Name_E (t0 : V) (H : Heap) : E n_ref04_Name [t0] H = ref04_Name H.length t0 H := (EV_at Tryd.func18 (by kernel_rfl) (by kernel_rfl) (by kernel_rfl)).trans (by kernel_rfl)

def teller_Right_c : Code := bodyOf Tryd.f19
def teller_Right_ks : Ks := []
def teller_Right_e (base : Nat) : KC (Out × Heap) := xEnd Tryd.prog D false base 5 Tryd.f19.results.toList
def teller_Right_C (base : Nat) (c : Code) (k : KC (Out × Heap)) (t : Ts) (H : Heap) (d : Ds) : Option (Out × Heap) := xC Tryd.prog base false teller_Right_ks E 5 c k t H d
def teller_Right (base : Nat) (t0 : V) (H : Heap) : Option (Out × Heap) := teller_Right_C base teller_Right_c (teller_Right_e base) [(0, t0)] H []
theorem teller_Right_eq (base : Nat) (t0 : V) (H : Heap) : teller_Right base t0 H =
 beff (oVar H t0) fun v0 h1 =>
 bnd (oLoad true 6 h1 v0) fun v2 =>
 bcall (E n_teller_within [v2, (.int .i64 50)] h1) (fun v3 h4 =>
 rt false base v3 h4)
 (fun v3 h4 => pn false base v3 h4) := by kernel_rfl
theorem teller_Right_E (t0 : V) (H : Heap) : E n_teller_Right [t0] H = teller_Right H.length t0.nrm H := (EV_atN Tryd.func19 (by kernel_rfl) (by kernel_rfl) (by kernel_rfl)).trans (by kernel_rfl)

def law04_weight_c : Code := bodyOf Tryd.f20
def law04_weight_ks : Ks := [(3, [0, 3, 4])]
def law04_weight_e (base : Nat) : KC (Out × Heap) := xEnd Tryd.prog D false base 36 Tryd.f20.results.toList
def law04_weight_C (base : Nat) (c : Code) (k : KC (Out × Heap)) (t : Ts) (H : Heap) (d : Ds) : Option (Out × Heap) := xC Tryd.prog base false law04_weight_ks E 36 c k t H d
def law04_weight_l1 (base : Nat) (t0 t3 t4 : V) (H : Heap) : Option (Out × Heap) :=
iterL (fun t H d again => law04_weight_C base (cAt [1, 1, 0, 1, 0, 0] law04_weight_c) (loopK law04_weight_ks (cAt [1, 1, 0, 1, 0, 0] law04_weight_c) again ((blockK 0 ((seqK (fun _ t => law04_weight_C base (cAt [1, 1, 1] law04_weight_c) (law04_weight_e base) (trimA law04_weight_ks (cAt [1, 1, 1] law04_weight_c) t)) (law04_weight_e base)))))) t H d) [(0, t0), (3, t3), (4, t4)] H []
theorem law04_weight_l1_eq (base : Nat) (t0 t3 t4 : V) (H : Heap) : law04_weight_l1 base t0 t3 t4 H =
 bnd (oLenSl t0) fun v1 =>
 bnd (oBin .lss 6 t4 v1) fun v2 =>
 cnd v2
 (bnd (oIndexPtr 6 t0 t4) fun v3 =>
 bnd (oFieldPtr v3 1) fun v4 =>
 bnd (oLoad false 1 H v4) fun v5 =>
 bnd (oLenStr v5) fun v6 =>
 bnd (oBin .add 6 t3 v6) fun v7 =>
 bnd (oIndexPtr 6 t0 t4) fun v8 =>
 bnd (oFieldPtr v8 2) fun v9 =>
 bnd (oLoad false 1 H v9) fun v10 =>
 bnd (oLenSl v10) fun v11 =>
 bnd (oBin .add 6 v7 v11) fun v12 =>
 bnd (oIndexPtr 6 t0 t4) fun v13 =>
 bnd (oFieldPtr v13 5) fun v14 =>
 bnd (oLoad false 1 H v14) fun v15 =>
 bcall (E n_law04_weight [v15] H) (fun v16 h17 =>
 sch (sam (oLoad false 1 h17 v9) v10) (
 sch (sam (oLoad false 1 h17 v4) v5) (
 bnd (oBin .add 6 v12 v16) fun v18 =>
 bnd (oBin .add 6 t4 (.int .i64 1)) fun v19 =>
 law04_weight_l1 base t0 v18 v19 h17)))
 (fun v16 h17 => pn false base v16 h17))
 (rt false base t3 H) := (loop_eq (cAt [1, 1, 0, 1, 0, 0] law04_weight_c) ((blockK 0 ((seqK (fun _ t => law04_weight_C base (cAt [1, 1, 1] law04_weight_c) (law04_weight_e base) (trimA law04_weight_ks (cAt [1, 1, 1] law04_weight_c) t)) (law04_weight_e base))))) _ H []).trans (by kernel_rfl)
def law04_weight (base : Nat) (t0 : V) (H : Heap) : Option (Out × Heap) := law04_weight_C base law04_weight_c (law04_weight_e base) [(0, t0)] H []
theorem law04_weight_eq (base : Nat) (t0 : V) (H : Heap) : law04_weight base t0 H =
 bnd (oLenSl t0) fun v0 =>
 law04_weight_l1 base t0 v0 (.int .i64 0) H := by kernel_rfl
theorem law04_weight_E (t0 : V) (H : Heap) : E n_law04_weight [t0] H = law04_weight H.length t0 H := (EV_at Tryd.func20 (by kernel_rfl) (by kernel_rfl) (by kernel_rfl)).trans (by kernel_rfl)

def ref04_Tell_c : Code := bodyOf Tryd.f21
def ref04_Tell_ks : Ks := [(3, [0, 4, 5]), (10, [0, 4, 5, 6]), (4, [0, 4, 5])]
def ref04_Tell_e (base : Nat) : KC (Out × Heap) := xEnd Tryd.prog D false base 52 Tryd.f21.results.toList
def ref04_Tell_C (base : Nat) (c : Code) (k : KC (Out × Heap)) (t : Ts) (H : Heap) (d : Ds) : Option (Out × Heap) := xC Tryd.prog base false ref04_Tell_ks E 52 c k t H d
def ref04_Tell_l1 (base : Nat) (t0 t4 t5 : V) (H : Heap) : Option (Out × Heap) :=
iterL (fun t H d again => ref04_Tell_C base (cAt [1, 1, 0, 1, 0, 0] ref04_Tell_c) (loopK ref04_Tell_ks (cAt [1, 1, 0, 1, 0, 0] ref04_Tell_c) again ((blockK 0 ((seqK (fun _ t => ref04_Tell_C base (cAt [1, 1, 1] ref04_Tell_c) (ref04_Tell_e base) (trimA ref04_Tell_ks (cAt [1, 1, 1] ref04_Tell_c) t)) (ref04_Tell_e base)))))) t H d) [(0, t0), (4, t4), (5, t5)] H []
def ref04_Tell_j3 (base : Nat) (t0 t4 t5 : V) (H : Heap) : Option (Out × Heap) :=
ref04_Tell_C base (cAt [1, 1, 0, 1, 0, 0, 1, 1] ref04_Tell_c) ((loopK ref04_Tell_ks (cAt [1, 1, 0, 1, 0, 0] ref04_Tell_c) (iterL (fun t H d again => ref04_Tell_C base (cAt [1, 1, 0, 1, 0, 0] ref04_Tell_c) (loopK ref04_Tell_ks (cAt [1, 1, 0, 1, 0, 0] ref04_Tell_c) again ((blockK 0 ((seqK (fun _ t => ref04_Tell_C base (cAt [1, 1, 1] ref04_Tell_c) (ref04_Tell_e base) (trimA ref04_Tell_ks (cAt [1, 1, 1] ref04_Tell_c) t)) (ref04_Tell_e base)))))) t H d)) ((blockK 0 ((seqK (fun _ t => ref04_Tell_C base (cAt [1, 1, 1] ref04_Tell_c) (ref04_Tell_e base) (trimA ref04_Tell_ks (cAt [1, 1, 1] ref04_Tell_c) t)) (ref04_Tell_e base))))))) [(0, t0), (4, t4), (5, t5)] H []
theorem ref04_Tell_j3_eq (base : Nat) (t0 t4 t5 : V) (H : Heap) : ref04_Tell_j3 base t0 t4 t5 H =
 bnd (oBin .add 6 t5 (.int .i64 1)) fun v32 =>
 ref04_Tell_l1 base t0 t4 v32 H := by kernel_rfl
def ref04_Tell_j2 (base : Nat) (t0 t4 t5 t6 : V) (H : Heap) : Option (Out × Heap) :=
ref04_Tell_C base (cAt [1, 1, 0, 1, 0, 0, 1, 0, 0, 1, 1, 1] ref04_Tell_c) ((blockK 1 ((seqK (fun _ t => ref04_Tell_C base (cAt [1, 1, 0, 1, 0, 0, 1, 1] ref04_Tell_c) ((loopK ref04_Tell_ks (cAt [1, 1, 0, 1, 0, 0] ref04_Tell_c) (iterL (fun t H d again => ref04_Tell_C base (cAt [1, 1, 0, 1, 0, 0] ref04_Tell_c) (loopK ref04_Tell_ks (cAt [1, 1, 0, 1, 0, 0] ref04_Tell_c) again ((blockK 0 ((seqK (fun _ t => ref04_Tell_C base (cAt [1, 1, 1] ref04_Tell_c) (ref04_Tell_e base) (trimA ref04_Tell_ks (cAt [1, 1, 1] ref04_Tell_c) t)) (ref04_Tell_e base)))))) t H d)) ((blockK 0 ((seqK (fun _ t => ref04_Tell_C base (cAt [1, 1, 1] ref04_Tell_c) (ref04_Tell_e base) (trimA ref04_Tell_ks (cAt [1, 1, 1] ref04_Tell_c) t)) (ref04_Tell_e base))))))) (trimA ref04_Tell_ks (cAt [1, 1, 0, 1, 0, 0, 1, 1] ref04_Tell_c) t)) ((loopK ref04_Tell_ks (cAt [1, 1, 0, 1, 0, 0] ref04_Tell_c) (iterL (fun t H d again => ref04_Tell_C base (cAt [1, 1, 0, 1, 0, 0] ref04_Tell_c) (loopK ref04_Tell_ks (cAt [1, 1, 0, 1, 0, 0] ref04_Tell_c) again ((blockK 0 ((seqK (fun _ t => ref04_Tell_C base (cAt [1, 1, 1] ref04_Tell_c) (ref04_Tell_e base) (trimA ref04_Tell_ks (cAt [1, 1, 1] ref04_Tell_c) t)) (ref04_Tell_e base)))))) t H d)) ((blockK 0 ((seqK (fun _ t => ref04_Tell_C base (cAt [1, 1, 1] ref04_Tell_c) (ref04_Tell_e base) (trimA ref04_Tell_ks (cAt [1, 1, 1] ref04_Tell_c) t)) (ref04_Tell_e base))))))))))) [(0, t0), (4, t4), (5, t5), (6, t6)] H []
theorem ref04_Tell_j2_eq (base : Nat) (t0 t4 t5 t6 : V) (H : Heap) : ref04_Tell_j2 base t0 t4 t5 t6 H =
 bnd (oIndexPtr 8 t0 t5) fun v20 =>
 bnd (oFieldPtr v20 0) fun v21 =>
 bnd (oLoad false 1 H v21) fun v22 =>
 bnd (oBin .add 6 t4 v22) fun v23 =>
 bnd (oBin .add 6 v23 t6) fun v24 =>
 bnd (oIndexPtr 8 t0 t5) fun v25 =>
 bnd (oFieldPtr v25 2) fun v26 =>
 bnd (oLoad true 6 H v26) fun v27 =>
 bcall (E n_ref04_Text [v27] H) (fun v28 h29 =>
 sch (sam (oLoad false 1 h29 v21) v22) (
 bnd (oBin .add 6 v24 v28) fun v30 =>
 bnd (oBin .add 6 v30 (.str [10])) fun v31 =>
 ref04_Tell_j3 base t0 v31 t5 h29))
 (fun v28 h29 => pn false base v28 h29) := by kernel_rfl
theorem ref04_Tell_l1_eq (base : Nat) (t0 t4 t5 : V) (H : Heap) : ref04_Tell_l1 base t0 t4 t5 H =
 bnd (oLenSl t0) fun v0 =>
 bnd (oBin .lss 6 t5 v0) fun v1 =>
 cnd v1
 (bnd (oIndexPtr 8 t0 t5) fun v2 =>
 bnd (oFieldPtr v2 0) fun v3 =>
 bnd (oLoad false 1 H v3) fun v4 =>
 bcall (E n_ref04_Name [v4] H) (fun v5 h6 =>
 bnd (oUn .not v5) fun v7 =>
 bnd (gua v7 false (oMove t0) (some (.tup []))) fun v8 =>
 bnd (gua v7 false (oMove t5) (some (.tup []))) fun v9 =>
 bnd (gua v7 false (oIndexPtr 8 v8 v9) (some (.tup []))) fun v10 =>
 bnd (gua v7 false (oFieldPtr v10 2) (some (.tup []))) fun v11 =>
 bnd (gua v7 false (oLoad true 6 h6 v11) (some (.tup []))) fun v12 =>
 bcall (gua v7 false (E n_ref04_Right [v12, (.int .i64 50)] h6) (some (.ret (.tup []), h6))) (fun v13 h14 =>
 bnd (gua v7 false (oUn .not v13) (some (.tup []))) fun v15 =>
 bnd (oPick v7 (.bool true) v15) fun v16 =>
 cnd v16
 (rt false base (.tup [(.str []), (.int .i64 1)]) h14)
 (bnd (oIndexPtr 8 t0 t5) fun v17 =>
 bnd (oFieldPtr v17 1) fun v18 =>
 bnd (oLoad false 1 h14 v18) fun v19 =>
 cnd v19
 (ref04_Tell_j2 base t0 t4 t5 (.str [32, 61, 47, 32]) h14)
 (ref04_Tell_j2 base t0 t4 t5 (.str [32, 61, 32]) h14)))
 (fun v13 h14 => pn false base v13 h14))
 (fun v5 h6 => pn false base v5 h6))
 (rt false base (.tup [t4, (.int .i64 0)]) H) := (loop_eq (cAt [1, 1, 0, 1, 0, 0] ref04_Tell_c) ((blockK 0 ((seqK (fun _ t => ref04_Tell_C base (cAt [1, 1, 1] ref04_Tell_c) (ref04_Tell_e base) (trimA ref04_Tell_ks (cAt [1, 1, 1] ref04_Tell_c) t)) (ref04_Tell_e base))))) _ H []).trans (by kernel_rfl)
def ref04_Tell (base : Nat) (t0 : V) (H : Heap) : Option (Out × Heap) := ref04_Tell_C base ref04_Tell_c (ref04_Tell_e base) [(0, t0)] H []
theorem ref04_Tell_eq (base : Nat) (t0 : V) (H : Heap) : ref04_Tell base t0 H =
 ref04_Tell_l1 base t0 (.str []) (.int .i64 0) H := by kernel_rfl
theorem ref04_Tell_E (t0 : V) (H : Heap) : E n_ref04_Tell [t0] H = ref04_Tell H.length t0 H := (EV_at Tryd.func21 (by kernel_rfl) (by kernel_rfl) (by kernel_rfl)).trans (by kernel_rfl)

def ref04_Right_c : Code := bodyOf Tryd.f22
def ref04_Right_ks : Ks := [(2, [1, 2, 5]), (25, [])]
def ref04_Right_e (base : Nat) : KC (Out × Heap) := xEnd Tryd.prog D false base 170 Tryd.f22.results.toList
def ref04_Right_C (base : Nat) (c : Code) (k : KC (Out × Heap)) (t : Ts) (H : Heap) (d : Ds) : Option (Out × Heap) := xC Tryd.prog base false ref04_Right_ks E 170 c k t H d
def ref04_Right_l1 (base : Nat) (t1 t2 t5 : V) (H : Heap) : Option (Out × Heap) :=
iterL (fun t H d again => ref04_Right_C base (cAt [1, 0, 1, 0, 0] ref04_Right_c) (loopK ref04_Right_ks (cAt [1, 0, 1, 0, 0] ref04_Right_c) again ((blockK 0 ((seqK (fun _ t => ref04_Right_C base (cAt [1, 1] ref04_Right_c) (ref04_Right_e base) (trimA ref04_Right_ks (cAt [1, 1] ref04_Right_c) t)) (ref04_Right_e base)))))) t H d) [(1, t1), (2, t2), (5, t5)] H []
def ref04_Right_j2 (base : Nat) (H : Heap) : Option (Out × Heap) :=
ref04_Right_C base (cAt [1, 1, 1, 1, 1, 1, 1] ref04_Right_c) (ref04_Right_e base) [] H []
theorem ref04_Right_j2_eq (base : Nat) (H : Heap) : ref04_Right_j2 base  H =
 rt false base (.bool false) H := by kernel_rfl
theorem ref04_Right_l1_eq (base : Nat) (t1 t2 t5 : V) (H : Heap) : ref04_Right_l1 base t1 t2 t5 H =
 bnd (oFieldPtr t2 5) fun v2 =>
 bnd (oLoad false 1 H v2) fun v3 =>
 bnd (oLenSl v3) fun v4 =>
 bnd (oBin .lss 6 t5 v4) fun v5 =>
 cnd v5
 (bnd (oBin .lss 6 t1 (.int .i64 1)) fun v6 =>
 bnd (gua v6 false (oFieldPtr t2 5) (some (.tup []))) fun v7 =>
 bnd (gua v6 false (oLoad false 1 H v7) (some (.tup []))) fun v8 =>
 bnd (gua v6 false (oMove t5) (some (.tup []))) fun v9 =>
 bnd (gua v6 false (oIndexPtr 6 v8 v9) (some (.tup []))) fun v10 =>
 bnd (gua v6 false (oLoad true 6 H v10) (some (.tup []))) fun v11 =>
 bnd (gua v6 false (oMove t1) (some (.tup []))) fun v12 =>
 bnd (gua v6 false (oBin .sub 6 v12 (.int .i64 1)) (some (.tup []))) fun v13 =>
 bcall (gua v6 false (E n_ref04_Right [v11, v13] H) (some (.ret (.tup []), H))) (fun v14 h15 =>
 bnd (gua v6 false (oUn .not v14) (some (.tup []))) fun v16 =>
 bnd (oPick v6 (.bool true) v16) fun v17 =>
 cnd v17
 (rt false base (.bool false) h15)
 (bnd (oBin .add 6 t5 (.int .i64 1)) fun v18 =>
 ref04_Right_l1 base t1 t2 v18 h15))
 (fun v14 h15 => pn false base v14 h15))
 (bnd (oFieldPtr t2 0) fun v19 =>
 bnd (oLoad false 1 H v19) fun v20 =>
 bnd (oBin .eql 6 v20 (.int .i64 4)) fun v21 =>
 bnd (gua v21 false (oFieldPtr t2 0) (some (.tup []))) fun v22 =>
 bnd (gua v21 false (oLoad false 1 H v22) (some (.tup []))) fun v23 =>
 bnd (gua v21 false (oBin .eql 6 v23 (.int .i64 5)) (some (.tup []))) fun v24 =>
 bnd (oPick v21 (.bool true) v24) fun v25 =>
 bnd (oFieldPtr t2 0) fun v26 =>
 bnd (oLoad false 1 H v26) fun v27 =>
 bnd (oBin .eql 6 v27 (.int .i64 6)) fun v28 =>
 bnd (gua v28 false (oFieldPtr t2 0) (some (.tup []))) fun v29 =>
 bnd (gua v28 false (oLoad false 1 H v29) (some (.tup []))) fun v30 =>
 bnd (gua v28 false (oBin .eql 6 v30 (.int .i64 7)) (some (.tup []))) fun v31 =>
 bnd (oPick v28 (.bool true) v31) fun v32 =>
 bnd (oUn .not v25) fun v33 =>
 bnd (gua v33 true (oFieldPtr t2 1) (some (.tup []))) fun v34 =>
 bnd (gua v33 true (oLoad false 1 H v34) (some (.tup []))) fun v35 =>
 bnd (gua v33 true (oBin .neq 6 v35 (.str [])) (some (.tup []))) fun v36 =>
 bnd (oPick v33 v36 (.bool false)) fun v37 =>
 bnd (gua v37 false (oMove v32) (some (.tup []))) fun v38 =>
 bnd (gua v37 false (oUn .not v38) (some (.tup []))) fun v39 =>
 bnd (gua v37 false (oMove v39) (some (.tup []))) fun v40 =>
 bnd (gua v40 true (oFieldPtr t2 2) (some (.tup []))) fun v41 =>
 bnd (gua v40 true (oLoad false 1 H v41) (some (.tup []))) fun v42 =>
 bnd (gua v40 true (oLenSl v42) (some (.tup []))) fun v43 =>
 bnd (gua v40 true (oBin .gtr 6 v43 (.int .i64 0)) (some (.tup []))) fun v44 =>
 bnd (gua v37 false (oPick v40 v44 (.bool false)) (some (.tup []))) fun v45 =>
 bnd (oPick v37 (.bool true) v45) fun v46 =>
 bnd (gua v46 false (oFieldPtr t2 0) (some (.tup []))) fun v47 =>
 bnd (gua v46 false (oLoad false 1 H v47) (some (.tup []))) fun v48 =>
 bnd (gua v46 false (oBin .neq 6 v48 (.int .i64 3)) (some (.tup []))) fun v49 =>
 bnd (gua v46 false (oMove v49) (some (.tup []))) fun v50 =>
 bnd (gua v50 true (oFieldPtr t2 3) (some (.tup []))) fun v51 =>
 bnd (gua v50 true (oLoad false 1 H v51) (some (.tup []))) fun v52 =>
 bnd (gua v50 true (oBin .neq 6 v52 (.int .i64 0)) (some (.tup []))) fun v53 =>
 bnd (gua v50 true (oMove v53) (some (.tup []))) fun v54 =>
 bnd (gua v54 false (oFieldPtr t2 4) (some (.tup []))) fun v55 =>
 bnd (gua v54 false (oLoad false 1 H v55) (some (.tup []))) fun v56 =>
 bnd (gua v54 false (oBin .neq 6 v56 (.int .i64 0)) (some (.tup []))) fun v57 =>
 bnd (gua v50 true (oPick v54 (.bool true) v57) (some (.tup []))) fun v58 =>
 bnd (gua v46 false (oPick v50 v58 (.bool false)) (some (.tup []))) fun v59 =>
 bnd (oPick v46 (.bool true) v59) fun v60 =>
 cnd v60
 (rt false base (.bool false) H)
 (bnd (oFieldPtr t2 5) fun v61 =>
 bnd (oLoad false 1 H v61) fun v62 =>
 bnd (oLenSl v62) fun v63 =>
 bnd (oFieldPtr t2 0) fun v64 =>
 bnd (oLoad false 1 H v64) fun v65 =>
 bnd (oBin .eql 6 v65 (.int .i64 1)) fun v66 =>
 cnd v66
 (cnd v66
 (bnd (oBin .gtr 6 v63 (.int .i64 1)) fun v67 =>
 rt false base v67 H)
 (bnd (oBin .eql 6 v65 (.int .i64 3)) fun v68 =>
 cnd v68
 (bnd (oBin .eql 6 v63 (.int .i64 1)) fun v69 =>
 bnd (gua v69 true (oFieldPtr t2 3) (some (.tup []))) fun v70 =>
 bnd (gua v69 true (oLoad false 1 H v70) (some (.tup []))) fun v71 =>
 bnd (gua v69 true (oBin .geq 6 v71 (.int .i64 0)) (some (.tup []))) fun v72 =>
 bnd (oPick v69 v72 (.bool false)) fun v73 =>
 bnd (gua v73 true (oFieldPtr t2 3) (some (.tup []))) fun v74 =>
 bnd (gua v73 true (oLoad false 1 H v74) (some (.tup []))) fun v75 =>
 bnd (gua v73 true (oBin .leq 6 v75 (.int .i64 200)) (some (.tup []))) fun v76 =>
 bnd (oPick v73 v76 (.bool false)) fun v77 =>
 bnd (gua v77 true (oFieldPtr t2 4) (some (.tup []))) fun v78 =>
 bnd (gua v77 true (oLoad false 1 H v78) (some (.tup []))) fun v79 =>
 bnd (gua v77 true (oBin .leq 6 v79 (.int .i64 200)) (some (.tup []))) fun v80 =>
 bnd (oPick v77 v80 (.bool false)) fun v81 =>
 bnd (gua v81 true (oFieldPtr t2 4) (some (.tup []))) fun v82 =>
 bnd (gua v81 true (oLoad false 1 H v82) (some (.tup []))) fun v83 =>
 bnd (gua v81 true (oBin .geq 6 v83 (.int .i64 (-1))) (some (.tup []))) fun v84 =>
 bnd (oPick v81 v84 (.bool false)) fun v85 =>
 bnd (gua v85 true (oFieldPtr t2 4) (some (.tup []))) fun v86 =>
 bnd (gua v85 true (oLoad false 1 H v86) (some (.tup []))) fun v87 =>
 bnd (gua v85 true (oBin .lss 6 v87 (.int .i64 0)) (some (.tup []))) fun v88 =>
 bnd (gua v85 true (oMove v88) (some (.tup []))) fun v89 =>
 bnd (gua v89 false (oFieldPtr t2 4) (some (.tup []))) fun v90 =>
 bnd (gua v89 false (oLoad false 1 H v90) (some (.tup []))) fun v91 =>
 bnd (gua v89 false (oFieldPtr t2 3) (some (.tup []))) fun v92 =>
 bnd (gua v89 false (oLoad false 1 H v92) (some (.tup []))) fun v93 =>
 bnd (gua v89 false (oBin .geq 6 v91 v93) (some (.tup []))) fun v94 =>
 bnd (gua v85 true (oPick v89 (.bool true) v94) (some (.tup []))) fun v95 =>
 bnd (oPick v85 v95 (.bool false)) fun v96 =>
 rt false base v96 H)
 (bnd (oBin .eql 6 v65 (.int .i64 4)) fun v97 =>
 cnd v97
 (bnd (oBin .eql 6 v63 (.int .i64 0)) fun v98 =>
 bnd (gua v98 true (oFieldPtr t2 1) (some (.tup []))) fun v99 =>
 bnd (gua v98 true (oLoad false 1 H v99) (some (.tup []))) fun v100 =>
 bcall (gua v98 true (E n_ref04_Name [v100] H) (some (.ret (.tup []), H))) (fun v101 h102 =>
 bnd (oPick v98 v101 (.bool false)) fun v103 =>
 rt false base v103 h102)
 (fun v101 h102 => pn false base v101 h102))
 (bnd (oBin .eql 6 v65 (.int .i64 5)) fun v104 =>
 cnd v104
 (bnd (oBin .eql 6 v63 (.int .i64 0)) fun v105 =>
 bnd (gua v105 true (oFieldPtr t2 1) (some (.tup []))) fun v106 =>
 bnd (gua v105 true (oLoad false 1 H v106) (some (.tup []))) fun v107 =>
 bcall (gua v105 true (E n_ref04_fold [v107] H) (some (.ret (.tup []), H))) (fun v108 h109 =>
 bnd (oPick v105 v108 (.bool false)) fun v110 =>
 rt false base v110 h109)
 (fun v108 h109 => pn false base v108 h109))
 (bnd (oBin .eql 6 v65 (.int .i64 6)) fun v111 =>
 cnd v111
 (bnd (oBin .eql 6 v63 (.int .i64 0)) fun v112 =>
 bnd (gua v112 true (oFieldPtr t2 2) (some (.tup []))) fun v113 =>
 bnd (gua v112 true (oLoad false 1 H v113) (some (.tup []))) fun v114 =>
 bcall (gua v112 true (E n_ref04_nums [v114, (.int .i64 1), (.int .i64 10000)] H) (some (.ret (.tup []), H))) (fun v115 h116 =>
 bnd (oPick v112 v115 (.bool false)) fun v117 =>
 rt false base v117 h116)
 (fun v115 h116 => pn false base v115 h116))
 (bnd (oBin .eql 6 v65 (.int .i64 7)) fun v118 =>
 cnd v118
 (bnd (oBin .eql 6 v63 (.int .i64 0)) fun v119 =>
 bnd (gua v119 true (oFieldPtr t2 2) (some (.tup []))) fun v120 =>
 bnd (gua v119 true (oLoad false 1 H v120) (some (.tup []))) fun v121 =>
 bcall (gua v119 true (E n_ref04_nums [v121, (.int .i64 2), (.int .i64 2)] H) (some (.ret (.tup []), H))) (fun v122 h123 =>
 bnd (oPick v119 v122 (.bool false)) fun v124 =>
 bnd (gua v124 true (oFieldPtr t2 2) (some (.tup []))) fun v125 =>
 bnd (gua v124 true (oLoad false 1 h123 v125) (some (.tup []))) fun v126 =>
 bnd (gua v124 true (oIndexPtr 1 v126 (.int .i64 0)) (some (.tup []))) fun v127 =>
 bnd (gua v124 true (oLoad false 1 h123 v127) (some (.tup []))) fun v128 =>
 bnd (gua v124 true (oFieldPtr t2 2) (some (.tup []))) fun v129 =>
 bnd (gua v124 true (oLoad false 1 h123 v129) (some (.tup []))) fun v130 =>
 bnd (gua v124 true (oIndexPtr 1 v130 (.int .i64 1)) (some (.tup []))) fun v131 =>
 bnd (gua v124 true (oLoad false 1 h123 v131) (some (.tup []))) fun v132 =>
 bnd (gua v124 true (oBin .leq 6 v128 v132) (some (.tup []))) fun v133 =>
 bnd (oPick v124 v133 (.bool false)) fun v134 =>
 rt false base v134 h123)
 (fun v122 h123 => pn false base v122 h123))
 (ref04_Right_j2 base  H)))))))
 (bnd (oBin .eql 6 v65 (.int .i64 2)) fun v135 =>
 cnd v135
 (bnd (oBin .gtr 6 v63 (.int .i64 1)) fun v136 =>
 rt false base v136 H)
 (bnd (oBin .eql 6 v65 (.int .i64 3)) fun v137 =>
 cnd v137
 (bnd (oBin .eql 6 v63 (.int .i64 1)) fun v138 =>
 bnd (gua v138 true (oFieldPtr t2 3) (some (.tup []))) fun v139 =>
 bnd (gua v138 true (oLoad false 1 H v139) (some (.tup []))) fun v140 =>
 bnd (gua v138 true (oBin .geq 6 v140 (.int .i64 0)) (some (.tup []))) fun v141 =>
 bnd (oPick v138 v141 (.bool false)) fun v142 =>
 bnd (gua v142 true (oFieldPtr t2 3) (some (.tup []))) fun v143 =>
 bnd (gua v142 true (oLoad false 1 H v143) (some (.tup []))) fun v144 =>
 bnd (gua v142 true (oBin .leq 6 v144 (.int .i64 200)) (some (.tup []))) fun v145 =>
 bnd (oPick v142 v145 (.bool false)) fun v146 =>
 bnd (gua v146 true (oFieldPtr t2 4) (some (.tup []))) fun v147 =>
 bnd (gua v146 true (oLoad false 1 H v147) (some (.tup []))) fun v148 =>
 bnd (gua v146 true (oBin .leq 6 v148 (.int .i64 200)) (some (.tup []))) fun v149 =>
 bnd (oPick v146 v149 (.bool false)) fun v150 =>
 bnd (gua v150 true (oFieldPtr t2 4) (some (.tup []))) fun v151 =>
 bnd (gua v150 true (oLoad false 1 H v151) (some (.tup []))) fun v152 =>
 bnd (gua v150 true (oBin .geq 6 v152 (.int .i64 (-1))) (some (.tup []))) fun v153 =>
 bnd (oPick v150 v153 (.bool false)) fun v154 =>
 bnd (gua v154 true (oFieldPtr t2 4) (some (.tup []))) fun v155 =>
 bnd (gua v154 true (oLoad false 1 H v155) (some (.tup []))) fun v156 =>
 bnd (gua v154 true (oBin .lss 6 v156 (.int .i64 0)) (some (.tup []))) fun v157 =>
 bnd (gua v154 true (oMove v157) (some (.tup []))) fun v158 =>
 bnd (gua v158 false (oFieldPtr t2 4) (some (.tup []))) fun v159 =>
 bnd (gua v158 false (oLoad false 1 H v159) (some (.tup []))) fun v160 =>
 bnd (gua v158 false (oFieldPtr t2 3) (some (.tup []))) fun v161 =>
 bnd (gua v158 false (oLoad false 1 H v161) (some (.tup []))) fun v162 =>
 bnd (gua v158 false (oBin .geq 6 v160 v162) (some (.tup []))) fun v163 =>
 bnd (gua v154 true (oPick v158 (.bool true) v163) (some (.tup []))) fun v164 =>
 bnd (oPick v154 v164 (.bool false)) fun v165 =>
 rt false base v165 H)
 (bnd (oBin .eql 6 v65 (.int .i64 4)) fun v166 =>
 cnd v166
 (bnd (oBin .eql 6 v63 (.int .i64 0)) fun v167 =>
 bnd (gua v167 true (oFieldPtr t2 1) (some (.tup []))) fun v168 =>
 bnd (gua v167 true (oLoad false 1 H v168) (some (.tup []))) fun v169 =>
 bcall (gua v167 true (E n_ref04_Name [v169] H) (some (.ret (.tup []), H))) (fun v170 h171 =>
 bnd (oPick v167 v170 (.bool false)) fun v172 =>
 rt false base v172 h171)
 (fun v170 h171 => pn false base v170 h171))
 (bnd (oBin .eql 6 v65 (.int .i64 5)) fun v173 =>
 cnd v173
 (bnd (oBin .eql 6 v63 (.int .i64 0)) fun v174 =>
 bnd (gua v174 true (oFieldPtr t2 1) (some (.tup []))) fun v175 =>
 bnd (gua v174 true (oLoad false 1 H v175) (some (.tup []))) fun v176 =>
 bcall (gua v174 true (E n_ref04_fold [v176] H) (some (.ret (.tup []), H))) (fun v177 h178 =>
 bnd (oPick v174 v177 (.bool false)) fun v179 =>
 rt false base v179 h178)
 (fun v177 h178 => pn false base v177 h178))
 (bnd (oBin .eql 6 v65 (.int .i64 6)) fun v180 =>
 cnd v180
 (bnd (oBin .eql 6 v63 (.int .i64 0)) fun v181 =>
 bnd (gua v181 true (oFieldPtr t2 2) (some (.tup []))) fun v182 =>
 bnd (gua v181 true (oLoad false 1 H v182) (some (.tup []))) fun v183 =>
 bcall (gua v181 true (E n_ref04_nums [v183, (.int .i64 1), (.int .i64 10000)] H) (some (.ret (.tup []), H))) (fun v184 h185 =>
 bnd (oPick v181 v184 (.bool false)) fun v186 =>
 rt false base v186 h185)
 (fun v184 h185 => pn false base v184 h185))
 (bnd (oBin .eql 6 v65 (.int .i64 7)) fun v187 =>
 cnd v187
 (bnd (oBin .eql 6 v63 (.int .i64 0)) fun v188 =>
 bnd (gua v188 true (oFieldPtr t2 2) (some (.tup []))) fun v189 =>
 bnd (gua v188 true (oLoad false 1 H v189) (some (.tup []))) fun v190 =>
 bcall (gua v188 true (E n_ref04_nums [v190, (.int .i64 2), (.int .i64 2)] H) (some (.ret (.tup []), H))) (fun v191 h192 =>
 bnd (oPick v188 v191 (.bool false)) fun v193 =>
 bnd (gua v193 true (oFieldPtr t2 2) (some (.tup []))) fun v194 =>
 bnd (gua v193 true (oLoad false 1 h192 v194) (some (.tup []))) fun v195 =>
 bnd (gua v193 true (oIndexPtr 1 v195 (.int .i64 0)) (some (.tup []))) fun v196 =>
 bnd (gua v193 true (oLoad false 1 h192 v196) (some (.tup []))) fun v197 =>
 bnd (gua v193 true (oFieldPtr t2 2) (some (.tup []))) fun v198 =>
 bnd (gua v193 true (oLoad false 1 h192 v198) (some (.tup []))) fun v199 =>
 bnd (gua v193 true (oIndexPtr 1 v199 (.int .i64 1)) (some (.tup []))) fun v200 =>
 bnd (gua v193 true (oLoad false 1 h192 v200) (some (.tup []))) fun v201 =>
 bnd (gua v193 true (oBin .leq 6 v197 v201) (some (.tup []))) fun v202 =>
 bnd (oPick v193 v202 (.bool false)) fun v203 =>
 rt false base v203 h192)
 (fun v191 h192 => pn false base v191 h192))
 (ref04_Right_j2 base  H))))))))) := (loop_eq (cAt [1, 0, 1, 0, 0] ref04_Right_c) ((blockK 0 ((seqK (fun _ t => ref04_Right_C base (cAt [1, 1] ref04_Right_c) (ref04_Right_e base) (trimA ref04_Right_ks (cAt [1, 1] ref04_Right_c) t)) (ref04_Right_e base))))) _ H []).trans (by kernel_rfl)
def ref04_Right (base : Nat) (t0 t1 : V) (H : Heap) : Option (Out × Heap) := ref04_Right_C base ref04_Right_c (ref04_Right_e base) [(0, t0), (1, t1)] H []
theorem ref04_Right_eq (base : Nat) (t0 t1 : V) (H : Heap) : ref04_Right base t0 t1 H =
 beff (oVar H t0) fun v0 h1 =>
 ref04_Right_l1 base t1 v0 (.int .i64 0) h1 := by kernel_rfl
theorem ref04_Right_E (t0 t1 : V) (H : Heap) : E n_ref04_Right [t0, t1] H = ref04_Right H.length t0 t1 H := (EV_at Tryd.func22 (by kernel_rfl) (by kernel_rfl) (by kernel_rfl)).trans (by kernel_rfl)
end
end Go.Proofs.YthcjjicplodhjaaDoor
end

