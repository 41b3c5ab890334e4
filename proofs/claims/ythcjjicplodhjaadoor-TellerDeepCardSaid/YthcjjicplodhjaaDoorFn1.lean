/- Fn1: a part of the proof that each law of this seat answers true at every input. No condition. -/
import Derived.Test.YthcjjicplodhjaaDoorHint
import Derived.KernelRfl
set_option linter.unusedVariables false
set_option linter.unusedSimpArgs false
set_option maxRecDepth 20000
section
/- Printed: what functions do. -/
namespace Go.Proofs.YthcjjicplodhjaaDoor
open Go Go.Ev
set_option linter.unusedVariables false
noncomputable section

def gosem_cut_init_c : Code := bodyOf Tryd.f2
def gosem_cut_init_ks : Ks := []
def gosem_cut_init_e (base : Nat) : KC (Out × Heap) := xEnd Tryd.prog D false base 1 Tryd.f2.results.toList
def gosem_cut_init_C (base : Nat) (c : Code) (k : KC (Out × Heap)) (t : Ts) (H : Heap) (d : Ds) : Option (Out × Heap) := xC Tryd.prog base false gosem_cut_init_ks E 1 c k t H d
def gosem_cut_init (base : Nat) (H : Heap) : Option (Out × Heap) := gosem_cut_init_C base gosem_cut_init_c (gosem_cut_init_e base) [] H []
theorem gosem_cut_init_eq (base : Nat) (H : Heap) : gosem_cut_init base  H =
 bcall (E n_gosem_cut [] H) (fun v0 h1 =>
 rt false base (.tup []) h1)
 (fun v0 h1 => pn false base v0 h1) := by kernel_rfl
theorem gosem_cut_init_E (H : Heap) : E n_gosem_cut_init [] H = gosem_cut_init H.length  H := (EV_at Tryd.func2 (by kernel_rfl) (by kernel_rfl) (by kernel_rfl)).trans (by kernel_rfl)

def law04_TellerAny_c : Code := bodyOf Tryd.f3
def law04_TellerAny_ks : Ks := []
def law04_TellerAny_e (base : Nat) : KC (Out × Heap) := xEnd Tryd.prog D false base 13 Tryd.f3.results.toList
def law04_TellerAny_C (base : Nat) (c : Code) (k : KC (Out × Heap)) (t : Ts) (H : Heap) (d : Ds) : Option (Out × Heap) := xC Tryd.prog base false law04_TellerAny_ks E 13 c k t H d
def law04_TellerAny (base : Nat) (t0 : V) (H : Heap) : Option (Out × Heap) := law04_TellerAny_C base law04_TellerAny_c (law04_TellerAny_e base) [(0, t0)] H []
theorem law04_TellerAny_eq (base : Nat) (t0 : V) (H : Heap) : law04_TellerAny base t0 H =
 bcall (E n_law04_awake [] H) (fun v0 h1 =>
 bnd (gua v0 true (oMove t0) (some (.tup []))) fun v2 =>
 bcall (gua v0 true (E n_law04_Weight [v2] h1) (some (.ret (.tup []), h1))) (fun v3 h4 =>
 bnd (gua v0 true (oBin .gtr 6 v3 (.int .i64 1000)) (some (.tup []))) fun v5 =>
 bnd (gua v0 true (oMove v5) (some (.tup []))) fun v6 =>
 bnd (gua v6 false (oMove t0) (some (.tup []))) fun v7 =>
 bcall (gua v6 false (E n_law04_same [v7] h4) (some (.ret (.tup []), h4))) (fun v8 h9 =>
 bnd (gua v0 true (oPick v6 (.bool true) v8) (some (.tup []))) fun v10 =>
 bnd (oPick v0 v10 (.bool false)) fun v11 =>
 rt false base v11 h9)
 (fun v8 h9 => pn false base v8 h9))
 (fun v3 h4 => pn false base v3 h4))
 (fun v0 h1 => pn false base v0 h1) := by kernel_rfl
theorem law04_TellerAny_E (t0 : V) (H : Heap) : E n_law04_TellerAny [t0] H = law04_TellerAny H.length t0 H := (EV_at Tryd.func3 (by kernel_rfl) (by kernel_rfl) (by kernel_rfl)).trans (by kernel_rfl)

def law04_TellerDeep_c : Code := bodyOf Tryd.f5
def law04_TellerDeep_ks : Ks := [(3, [0, 1, 5, 6]), (4, [0, 1, 5, 6])]
def law04_TellerDeep_e (base : Nat) : KC (Out × Heap) := xEnd Tryd.prog D false base 40 Tryd.f5.results.toList
def law04_TellerDeep_C (base : Nat) (c : Code) (k : KC (Out × Heap)) (t : Ts) (H : Heap) (d : Ds) : Option (Out × Heap) := xC Tryd.prog base false law04_TellerDeep_ks E 40 c k t H d
def law04_TellerDeep_l1 (base : Nat) (t0 t1 t5 t6 : V) (H : Heap) : Option (Out × Heap) :=
iterL (fun t H d again => law04_TellerDeep_C base (cAt [1, 1, 0, 1, 0, 0] law04_TellerDeep_c) (loopK law04_TellerDeep_ks (cAt [1, 1, 0, 1, 0, 0] law04_TellerDeep_c) again ((blockK 0 ((seqK (fun _ t => law04_TellerDeep_C base (cAt [1, 1, 1] law04_TellerDeep_c) (law04_TellerDeep_e base) (trimA law04_TellerDeep_ks (cAt [1, 1, 1] law04_TellerDeep_c) t)) (law04_TellerDeep_e base)))))) t H d) [(0, t0), (1, t1), (5, t5), (6, t6)] H []
def law04_TellerDeep_j2 (base : Nat) (t0 t1 t5 t6 : V) (H : Heap) : Option (Out × Heap) :=
law04_TellerDeep_C base (cAt [1, 1, 0, 1, 0, 0, 1, 1] law04_TellerDeep_c) ((loopK law04_TellerDeep_ks (cAt [1, 1, 0, 1, 0, 0] law04_TellerDeep_c) (iterL (fun t H d again => law04_TellerDeep_C base (cAt [1, 1, 0, 1, 0, 0] law04_TellerDeep_c) (loopK law04_TellerDeep_ks (cAt [1, 1, 0, 1, 0, 0] law04_TellerDeep_c) again ((blockK 0 ((seqK (fun _ t => law04_TellerDeep_C base (cAt [1, 1, 1] law04_TellerDeep_c) (law04_TellerDeep_e base) (trimA law04_TellerDeep_ks (cAt [1, 1, 1] law04_TellerDeep_c) t)) (law04_TellerDeep_e base)))))) t H d)) ((blockK 0 ((seqK (fun _ t => law04_TellerDeep_C base (cAt [1, 1, 1] law04_TellerDeep_c) (law04_TellerDeep_e base) (trimA law04_TellerDeep_ks (cAt [1, 1, 1] law04_TellerDeep_c) t)) (law04_TellerDeep_e base))))))) [(0, t0), (1, t1), (5, t5), (6, t6)] H []
theorem law04_TellerDeep_j2_eq (base : Nat) (t0 t1 t5 t6 : V) (H : Heap) : law04_TellerDeep_j2 base t0 t1 t5 t6 H =
 bnd (oBin .add 6 t6 (.int .i64 1)) fun v16 =>
 law04_TellerDeep_l1 base t0 t1 t5 v16 H := by kernel_rfl
theorem law04_TellerDeep_l1_eq (base : Nat) (t0 t1 t5 t6 : V) (H : Heap) : law04_TellerDeep_l1 base t0 t1 t5 t6 H =
 bnd (oIntTo .i64 t0) fun v5 =>
 bnd (oBin .rem 6 v5 (.int .i64 21)) fun v6 =>
 bnd (oBin .add 6 (.int .i64 40) v6) fun v7 =>
 bnd (oBin .lss 6 t6 v7) fun v8 =>
 cnd v8
 (bnd (oBin .rem 6 t1 (.int .u8 3)) fun v9 =>
 bnd (oBin .eql 6 v9 (.int .u8 0)) fun v10 =>
 cnd v10
 (bnd (oLoad true 6 H t5) fun v11 =>
 bnd (oLit 6 1 (.agg [(.int .i64 0), (.str []), (.vs []), (.int .i64 0), (.int .i64 0), (.vs [])]) [(0, v11)]) fun v12 =>
 bnd (oBuild [(.int .i64 0), (.str []), .nils, (.int .i64 0), (.int .i64 0), .nils] [(0, 1), (1, 1), (2, 1), (3, 1), (4, 1), (5, 1)] [(0, (.int .i64 3)), (4, (.int .i64 (-1))), (5, v12)]) fun v13 =>
 beff (oStore base 6 H t5 v13) fun v14 h15 =>
 law04_TellerDeep_j2 base t0 t1 t5 t6 h15)
 (bnd (oBin .eql 6 v9 (.int .u8 1)) fun v17 =>
 cnd v17
 (bnd (oLoad true 6 H t5) fun v18 =>
 bnd (oBuild [(.int .i64 0), (.str []), .nils, (.int .i64 0), (.int .i64 0), .nils] [(0, 1), (1, 1), (2, 1), (3, 1), (4, 1), (5, 1)] [(0, (.int .i64 5))]) fun v19 =>
 bnd (oLit 6 2 (.agg [(.int .i64 0), (.str []), (.vs []), (.int .i64 0), (.int .i64 0), (.vs [])]) [(0, v18), (1, v19)]) fun v20 =>
 bnd (oBuild [(.int .i64 0), (.str []), .nils, (.int .i64 0), (.int .i64 0), .nils] [(0, 1), (1, 1), (2, 1), (3, 1), (4, 1), (5, 1)] [(0, (.int .i64 1)), (5, v20)]) fun v21 =>
 beff (oStore base 6 H t5 v21) fun v22 h23 =>
 law04_TellerDeep_j2 base t0 t1 t5 t6 h23)
 (bnd (oBuild [(.int .i64 0), (.str []), .nils, (.int .i64 0), (.int .i64 0), .nils] [(0, 1), (1, 1), (2, 1), (3, 1), (4, 1), (5, 1)] [(0, (.int .i64 5))]) fun v24 =>
 bnd (oLoad true 6 H t5) fun v25 =>
 bnd (oLit 6 2 (.agg [(.int .i64 0), (.str []), (.vs []), (.int .i64 0), (.int .i64 0), (.vs [])]) [(0, v24), (1, v25)]) fun v26 =>
 bnd (oBuild [(.int .i64 0), (.str []), .nils, (.int .i64 0), (.int .i64 0), .nils] [(0, 1), (1, 1), (2, 1), (3, 1), (4, 1), (5, 1)] [(0, (.int .i64 2)), (5, v26)]) fun v27 =>
 beff (oStore base 6 H t5 v27) fun v28 h29 =>
 law04_TellerDeep_j2 base t0 t1 t5 t6 h29)))
 (bcall (E n_law04_awake [] H) (fun v30 h31 =>
 bnd (gua v30 true (oLoad true 6 h31 t5) (some (.tup []))) fun v32 =>
 bnd (gua v30 true (oBuild [(.str []), (.bool false), (.int .i64 0), (.str []), .nils, (.int .i64 0), (.int .i64 0), .nils] [(0, 1), (1, 1), (2, 6)] [(0, (.str [97])), (2, v32)]) (some (.tup []))) fun v33 =>
 bnd (gua v30 true (oLit 8 1 (.agg [(.str []), (.bool false), (.int .i64 0), (.str []), (.vs []), (.int .i64 0), (.int .i64 0), (.vs [])]) [(0, v33)]) (some (.tup []))) fun v34 =>
 bcall (gua v30 true (E n_law04_same [v34] h31) (some (.ret (.tup []), h31))) (fun v35 h36 =>
 bnd (oPick v30 v35 (.bool false)) fun v37 =>
 rt false base v37 h36)
 (fun v35 h36 => pn false base v35 h36))
 (fun v30 h31 => pn false base v30 h31)) := (loop_eq (cAt [1, 1, 0, 1, 0, 0] law04_TellerDeep_c) ((blockK 0 ((seqK (fun _ t => law04_TellerDeep_C base (cAt [1, 1, 1] law04_TellerDeep_c) (law04_TellerDeep_e base) (trimA law04_TellerDeep_ks (cAt [1, 1, 1] law04_TellerDeep_c) t)) (law04_TellerDeep_e base))))) _ H []).trans (by kernel_rfl)
def law04_TellerDeep (base : Nat) (t0 t1 : V) (H : Heap) : Option (Out × Heap) := law04_TellerDeep_C base law04_TellerDeep_c (law04_TellerDeep_e base) [(0, t0), (1, t1)] H []
theorem law04_TellerDeep_eq (base : Nat) (t0 t1 : V) (H : Heap) : law04_TellerDeep base t0 t1 H =
 bnd (oBuild [(.int .i64 0), (.str []), .nils, (.int .i64 0), (.int .i64 0), .nils] [(0, 1), (1, 1), (2, 1), (3, 1), (4, 1), (5, 1)] [(0, (.int .i64 5)), (1, (.str [120]))]) fun v0 =>
 beff (oVar H (.agg [(.int .i64 0), (.str []), .nils, (.int .i64 0), (.int .i64 0), .nils])) fun v1 h2 =>
 beff (oStore base 6 h2 v1 v0) fun v3 h4 =>
 law04_TellerDeep_l1 base t0 t1 v1 (.int .i64 0) h4 := by kernel_rfl
theorem law04_TellerDeep_E (t0 t1 : V) (H : Heap) : E n_law04_TellerDeep [t0, t1] H = law04_TellerDeep H.length t0 t1 H := (EV_at Tryd.func5 (by kernel_rfl) (by kernel_rfl) (by kernel_rfl)).trans (by kernel_rfl)

def law04_TellerBack_c : Code := bodyOf Tryd.f6
def law04_TellerBack_ks : Ks := []
def law04_TellerBack_e (base : Nat) : KC (Out × Heap) := xEnd Tryd.prog D false base 38 Tryd.f6.results.toList
def law04_TellerBack_C (base : Nat) (c : Code) (k : KC (Out × Heap)) (t : Ts) (H : Heap) (d : Ds) : Option (Out × Heap) := xC Tryd.prog base false law04_TellerBack_ks E 38 c k t H d
def law04_TellerBack (base : Nat) (t0 : V) (H : Heap) : Option (Out × Heap) := law04_TellerBack_C base law04_TellerBack_c (law04_TellerBack_e base) [(0, t0)] H []
theorem law04_TellerBack_eq (base : Nat) (t0 : V) (H : Heap) : law04_TellerBack base t0 H =
 bcall (E n_law04_awake [] H) (fun v0 h1 =>
 bnd (oUn .not v0) fun v2 =>
 cnd v2
 (rt false base (.bool false) h1)
 (bcall (E n_law04_Made [t0] h1) (fun v3 h4 =>
 bcall (E n_teller_Tell [v3] h4) (fun v5 h6 =>
 bnd (oExtract v5 0) fun v7 =>
 bnd (oExtract v5 1) fun v8 =>
 bcall (E n_ref03_Read [v7] h6) (fun v9 h10 =>
 bnd (oExtract v9 0) fun v11 =>
 bnd (oExtract v9 1) fun v12 =>
 bnd (gua v0 true (oMove v8) (some (.tup []))) fun v13 =>
 bnd (gua v0 true (oBin .eql 6 v13 (.int .i64 0)) (some (.tup []))) fun v14 =>
 bnd (oPick v0 v14 (.bool false)) fun v15 =>
 bnd (gua v15 true (oMove v12) (some (.tup []))) fun v16 =>
 bnd (gua v15 true (oBin .eql 6 v16 (.int .i64 0)) (some (.tup []))) fun v17 =>
 bnd (oPick v15 v17 (.bool false)) fun v18 =>
 bnd (gua v18 true (oMove v11) (some (.tup []))) fun v19 =>
 bnd (gua v18 true (oMove v3) (some (.tup []))) fun v20 =>
 bcall (gua v18 true (E n_ref03_SameLines [v19, v20] h10) (some (.ret (.tup []), h10))) (fun v21 h22 =>
 bnd (oPick v18 v21 (.bool false)) fun v23 =>
 rt false base v23 h22)
 (fun v21 h22 => pn false base v21 h22))
 (fun v9 h10 => pn false base v9 h10))
 (fun v5 h6 => pn false base v5 h6))
 (fun v3 h4 => pn false base v3 h4)))
 (fun v0 h1 => pn false base v0 h1) := by kernel_rfl
theorem law04_TellerBack_E (t0 : V) (H : Heap) : E n_law04_TellerBack [t0] H = law04_TellerBack H.length t0 H := (EV_at Tryd.func6 (by kernel_rfl) (by kernel_rfl) (by kernel_rfl)).trans (by kernel_rfl)

def law04_TellerNames_c : Code := bodyOf Tryd.f7
def law04_TellerNames_ks : Ks := []
def law04_TellerNames_e (base : Nat) : KC (Out × Heap) := xEnd Tryd.prog D false base 24 Tryd.f7.results.toList
def law04_TellerNames_C (base : Nat) (c : Code) (k : KC (Out × Heap)) (t : Ts) (H : Heap) (d : Ds) : Option (Out × Heap) := xC Tryd.prog base false law04_TellerNames_ks E 24 c k t H d
def law04_TellerNames (base : Nat) (t0 t1 : V) (H : Heap) : Option (Out × Heap) := law04_TellerNames_C base law04_TellerNames_c (law04_TellerNames_e base) [(0, t0), (1, t1)] H []
theorem law04_TellerNames_eq (base : Nat) (t0 t1 : V) (H : Heap) : law04_TellerNames base t0 t1 H =
 bnd (oLit 1 9 (.str []) [(0, (.str [97])), (1, (.str [122])), (2, (.str [49])), (3, (.str [45])), (4, (.str [65])), (5, (.str [98, 57])), (6, (.str [95])), (7, (.str [46])), (8, (.str [97, 98, 99, 100, 101, 102, 103, 104, 105, 106]))]) fun v0 =>
 bcall (E n_law03_Pieces [t1, v0] H) (fun v1 h2 =>
 bcall (E n_law04_awake [] h2) (fun v3 h4 =>
 bnd (gua v3 true (oMove t0) (some (.tup []))) fun v5 =>
 bcall (gua v3 true (E n_teller_Name [v5] h4) (some (.ret (.tup []), h4))) (fun v6 h7 =>
 bnd (gua v3 true (oMove t0) (some (.tup []))) fun v8 =>
 bcall (gua v3 true (E n_ref04_Name [v8] h7) (some (.ret (.tup []), h7))) (fun v9 h10 =>
 bnd (gua v3 true (oBin .eql 0 v6 v9) (some (.tup []))) fun v11 =>
 bnd (oPick v3 v11 (.bool false)) fun v12 =>
 bnd (gua v12 true (oMove v1) (some (.tup []))) fun v13 =>
 bcall (gua v12 true (E n_teller_Name [v13] h10) (some (.ret (.tup []), h10))) (fun v14 h15 =>
 bnd (gua v12 true (oMove v1) (some (.tup []))) fun v16 =>
 bcall (gua v12 true (E n_ref04_Name [v16] h15) (some (.ret (.tup []), h15))) (fun v17 h18 =>
 bnd (gua v12 true (oBin .eql 0 v14 v17) (some (.tup []))) fun v19 =>
 bnd (oPick v12 v19 (.bool false)) fun v20 =>
 rt false base v20 h18)
 (fun v17 h18 => pn false base v17 h18))
 (fun v14 h15 => pn false base v14 h15))
 (fun v9 h10 => pn false base v9 h10))
 (fun v6 h7 => pn false base v6 h7))
 (fun v3 h4 => pn false base v3 h4))
 (fun v1 h2 => pn false base v1 h2) := by kernel_rfl
theorem law04_TellerNames_E (t0 t1 : V) (H : Heap) : E n_law04_TellerNames [t0, t1] H = law04_TellerNames H.length t0 t1 H := (EV_at Tryd.func7 (by kernel_rfl) (by kernel_rfl) (by kernel_rfl)).trans (by kernel_rfl)

def law04_TellerRepeats_c : Code := bodyOf Tryd.f8
def law04_TellerRepeats_ks : Ks := []
def law04_TellerRepeats_e (base : Nat) : KC (Out × Heap) := xEnd Tryd.prog D false base 54 Tryd.f8.results.toList
def law04_TellerRepeats_C (base : Nat) (c : Code) (k : KC (Out × Heap)) (t : Ts) (H : Heap) (d : Ds) : Option (Out × Heap) := xC Tryd.prog base false law04_TellerRepeats_ks E 54 c k t H d
def law04_TellerRepeats (base : Nat) (t0 t1 t2 t3 : V) (H : Heap) : Option (Out × Heap) := law04_TellerRepeats_C base law04_TellerRepeats_c (law04_TellerRepeats_e base) [(0, t0), (1, t1), (2, t2), (3, t3)] H []
theorem law04_TellerRepeats_eq (base : Nat) (t0 t1 t2 t3 : V) (H : Heap) : law04_TellerRepeats base t0 t1 t2 t3 H =
 bnd (oLit 1 2 (.int .i64 0) [(0, t2), (1, t3)]) fun v0 =>
 bnd (oBuild [(.int .i64 0), (.str []), .nils, (.int .i64 0), (.int .i64 0), .nils] [(0, 1), (1, 1), (2, 1), (3, 1), (4, 1), (5, 1)] [(0, (.int .i64 6)), (2, v0)]) fun v1 =>
 beff (oVar H (.agg [(.int .i64 0), (.str []), .nils, (.int .i64 0), (.int .i64 0), .nils])) fun v2 h3 =>
 beff (oStore base 6 h3 v2 v1) fun v4 h5 =>
 bnd (oLit 1 2 (.int .i64 0) [(0, t2), (1, t3)]) fun v6 =>
 bnd (oBuild [(.int .i64 0), (.str []), .nils, (.int .i64 0), (.int .i64 0), .nils] [(0, 1), (1, 1), (2, 1), (3, 1), (4, 1), (5, 1)] [(0, (.int .i64 7)), (2, v6)]) fun v7 =>
 beff (oVar h5 (.agg [(.int .i64 0), (.str []), .nils, (.int .i64 0), (.int .i64 0), .nils])) fun v8 h9 =>
 beff (oStore base 6 h9 v8 v7) fun v10 h11 =>
 bnd (oBuild [(.int .i64 0), (.str []), .nils, (.int .i64 0), (.int .i64 0), .nils] [(0, 1), (1, 1), (2, 1), (3, 1), (4, 1), (5, 1)] [(0, (.int .i64 4)), (1, (.str [97]))]) fun v12 =>
 bnd (oLit 6 1 (.agg [(.int .i64 0), (.str []), (.vs []), (.int .i64 0), (.int .i64 0), (.vs [])]) [(0, v12)]) fun v13 =>
 bnd (oBuild [(.int .i64 0), (.str []), .nils, (.int .i64 0), (.int .i64 0), .nils] [(0, 1), (1, 1), (2, 1), (3, 1), (4, 1), (5, 1)] [(0, (.int .i64 3)), (3, t0), (4, t1), (5, v13)]) fun v14 =>
 beff (oVar h11 (.agg [(.int .i64 0), (.str []), .nils, (.int .i64 0), (.int .i64 0), .nils])) fun v15 h16 =>
 beff (oStore base 6 h16 v15 v14) fun v17 h18 =>
 bcall (E n_law04_awake [] h18) (fun v19 h20 =>
 bnd (gua v19 true (oLoad true 6 h20 v2) (some (.tup []))) fun v21 =>
 bnd (gua v19 true (oBuild [(.str []), (.bool false), (.int .i64 0), (.str []), .nils, (.int .i64 0), (.int .i64 0), .nils] [(0, 1), (1, 1), (2, 6)] [(0, (.str [97])), (2, v21)]) (some (.tup []))) fun v22 =>
 bnd (gua v19 true (oLit 8 1 (.agg [(.str []), (.bool false), (.int .i64 0), (.str []), (.vs []), (.int .i64 0), (.int .i64 0), (.vs [])]) [(0, v22)]) (some (.tup []))) fun v23 =>
 bcall (gua v19 true (E n_law04_same [v23] h20) (some (.ret (.tup []), h20))) (fun v24 h25 =>
 bnd (oPick v19 v24 (.bool false)) fun v26 =>
 bnd (gua v26 true (oLoad true 6 h25 v8) (some (.tup []))) fun v27 =>
 bnd (gua v26 true (oBuild [(.str []), (.bool false), (.int .i64 0), (.str []), .nils, (.int .i64 0), (.int .i64 0), .nils] [(0, 1), (1, 1), (2, 6)] [(0, (.str [97])), (2, v27)]) (some (.tup []))) fun v28 =>
 bnd (gua v26 true (oLit 8 1 (.agg [(.str []), (.bool false), (.int .i64 0), (.str []), (.vs []), (.int .i64 0), (.int .i64 0), (.vs [])]) [(0, v28)]) (some (.tup []))) fun v29 =>
 bcall (gua v26 true (E n_law04_same [v29] h25) (some (.ret (.tup []), h25))) (fun v30 h31 =>
 bnd (oPick v26 v30 (.bool false)) fun v32 =>
 bnd (gua v32 true (oLoad true 6 h31 v15) (some (.tup []))) fun v33 =>
 bnd (gua v32 true (oBuild [(.str []), (.bool false), (.int .i64 0), (.str []), .nils, (.int .i64 0), (.int .i64 0), .nils] [(0, 1), (1, 1), (2, 6)] [(0, (.str [97])), (2, v33)]) (some (.tup []))) fun v34 =>
 bnd (gua v32 true (oLit 8 1 (.agg [(.str []), (.bool false), (.int .i64 0), (.str []), (.vs []), (.int .i64 0), (.int .i64 0), (.vs [])]) [(0, v34)]) (some (.tup []))) fun v35 =>
 bcall (gua v32 true (E n_law04_same [v35] h31) (some (.ret (.tup []), h31))) (fun v36 h37 =>
 bnd (oPick v32 v36 (.bool false)) fun v38 =>
 bnd (gua v38 true (oMove t1) (some (.tup []))) fun v39 =>
 bnd (gua v38 true (oMove t0) (some (.tup []))) fun v40 =>
 bnd (gua v38 true (oLoad true 6 h37 v15) (some (.tup []))) fun v41 =>
 bnd (gua v38 true (oLit 6 1 (.agg [(.int .i64 0), (.str []), (.vs []), (.int .i64 0), (.int .i64 0), (.vs [])]) [(0, v41)]) (some (.tup []))) fun v42 =>
 bnd (gua v38 true (oBuild [(.int .i64 0), (.str []), .nils, (.int .i64 0), (.int .i64 0), .nils] [(0, 1), (1, 1), (2, 1), (3, 1), (4, 1), (5, 1)] [(0, (.int .i64 3)), (3, v39), (4, v40), (5, v42)]) (some (.tup []))) fun v43 =>
 bnd (gua v38 true (oBuild [(.str []), (.bool false), (.int .i64 0), (.str []), .nils, (.int .i64 0), (.int .i64 0), .nils] [(0, 1), (1, 1), (2, 6)] [(0, (.str [97])), (2, v43)]) (some (.tup []))) fun v44 =>
 bnd (gua v38 true (oLit 8 1 (.agg [(.str []), (.bool false), (.int .i64 0), (.str []), (.vs []), (.int .i64 0), (.int .i64 0), (.vs [])]) [(0, v44)]) (some (.tup []))) fun v45 =>
 bcall (gua v38 true (E n_law04_same [v45] h37) (some (.ret (.tup []), h37))) (fun v46 h47 =>
 bnd (oPick v38 v46 (.bool false)) fun v48 =>
 rt false base v48 h47)
 (fun v46 h47 => pn false base v46 h47))
 (fun v36 h37 => pn false base v36 h37))
 (fun v30 h31 => pn false base v30 h31))
 (fun v24 h25 => pn false base v24 h25))
 (fun v19 h20 => pn false base v19 h20) := by kernel_rfl
theorem law04_TellerRepeats_E (t0 t1 t2 t3 : V) (H : Heap) : E n_law04_TellerRepeats [t0, t1, t2, t3] H = law04_TellerRepeats H.length t0 t1 t2 t3 H := (EV_at Tryd.func8 (by kernel_rfl) (by kernel_rfl) (by kernel_rfl)).trans (by kernel_rfl)

def law04_awake_c : Code := bodyOf Tryd.f9
def law04_awake_ks : Ks := []
def law04_awake_e (base : Nat) : KC (Out × Heap) := xEnd Tryd.prog D false base 50 Tryd.f9.results.toList
def law04_awake_C (base : Nat) (c : Code) (k : KC (Out × Heap)) (t : Ts) (H : Heap) (d : Ds) : Option (Out × Heap) := xC Tryd.prog base false law04_awake_ks E 50 c k t H d
def law04_awake (base : Nat) (H : Heap) : Option (Out × Heap) := law04_awake_C base law04_awake_c (law04_awake_e base) [] H []
theorem law04_awake_eq (base : Nat) (H : Heap) : law04_awake base  H =
 bnd (oBuild [(.int .i64 0), (.str []), .nils, (.int .i64 0), (.int .i64 0), .nils] [(0, 1), (1, 1), (2, 1), (3, 1), (4, 1), (5, 1)] [(0, (.int .i64 4)), (1, (.str [98]))]) fun v0 =>
 bnd (oLit 6 1 (.agg [(.int .i64 0), (.str []), (.vs []), (.int .i64 0), (.int .i64 0), (.vs [])]) [(0, v0)]) fun v1 =>
 bnd (oBuild [(.int .i64 0), (.str []), .nils, (.int .i64 0), (.int .i64 0), .nils] [(0, 1), (1, 1), (2, 1), (3, 1), (4, 1), (5, 1)] [(0, (.int .i64 3)), (3, (.int .i64 1)), (4, (.int .i64 2)), (5, v1)]) fun v2 =>
 beff (oVar H (.agg [(.int .i64 0), (.str []), .nils, (.int .i64 0), (.int .i64 0), .nils])) fun v3 h4 =>
 beff (oStore base 6 h4 v3 v2) fun v5 h6 =>
 bnd (oLoad true 6 h6 v3) fun v7 =>
 bnd (oBuild [(.int .i64 0), (.str []), .nils, (.int .i64 0), (.int .i64 0), .nils] [(0, 1), (1, 1), (2, 1), (3, 1), (4, 1), (5, 1)] [(0, (.int .i64 5)), (1, (.str [99]))]) fun v8 =>
 bnd (oLit 6 2 (.agg [(.int .i64 0), (.str []), (.vs []), (.int .i64 0), (.int .i64 0), (.vs [])]) [(0, v7), (1, v8)]) fun v9 =>
 bnd (oBuild [(.int .i64 0), (.str []), .nils, (.int .i64 0), (.int .i64 0), .nils] [(0, 1), (1, 1), (2, 1), (3, 1), (4, 1), (5, 1)] [(0, (.int .i64 1)), (5, v9)]) fun v10 =>
 beff (oVar h6 (.agg [(.int .i64 0), (.str []), .nils, (.int .i64 0), (.int .i64 0), .nils])) fun v11 h12 =>
 beff (oStore base 6 h12 v11 v10) fun v13 h14 =>
 bnd (oLoad true 6 h14 v11) fun v15 =>
 bnd (oBuild [(.str []), (.bool false), (.int .i64 0), (.str []), .nils, (.int .i64 0), (.int .i64 0), .nils] [(0, 1), (1, 1), (2, 6)] [(0, (.str [97])), (2, v15)]) fun v16 =>
 bnd (oLit 8 1 (.agg [(.str []), (.bool false), (.int .i64 0), (.str []), (.vs []), (.int .i64 0), (.int .i64 0), (.vs [])]) [(0, v16)]) fun v17 =>
 bcall (E n_teller_Tell [v17] h14) (fun v18 h19 =>
 bnd (oExtract v18 0) fun v20 =>
 bnd (oExtract v18 1) fun v21 =>
 bnd (oLoad true 6 h19 v11) fun v22 =>
 bnd (oBuild [(.str []), (.bool false), (.int .i64 0), (.str []), .nils, (.int .i64 0), (.int .i64 0), .nils] [(0, 1), (1, 1), (2, 6)] [(0, (.str [65])), (2, v22)]) fun v23 =>
 bnd (oLit 8 1 (.agg [(.str []), (.bool false), (.int .i64 0), (.str []), (.vs []), (.int .i64 0), (.int .i64 0), (.vs [])]) [(0, v23)]) fun v24 =>
 bcall (E n_teller_Tell [v24] h19) (fun v25 h26 =>
 bnd (oExtract v25 0) fun v27 =>
 bnd (oExtract v25 1) fun v28 =>
 bnd (oBin .eql 6 v21 (.int .i64 0)) fun v29 =>
 bnd (gua v29 true (oMove v20) (some (.tup []))) fun v30 =>
 bnd (gua v29 true (oBin .eql 6 v30 (.str [97, 32, 61, 32, 49, 42, 50, 98, 32, 47, 32, 34, 99, 34, 10])) (some (.tup []))) fun v31 =>
 bnd (oPick v29 v31 (.bool false)) fun v32 =>
 bnd (gua v32 true (oMove v28) (some (.tup []))) fun v33 =>
 bnd (gua v32 true (oBin .eql 6 v33 (.int .i64 1)) (some (.tup []))) fun v34 =>
 bnd (oPick v32 v34 (.bool false)) fun v35 =>
 bnd (gua v35 true (oLoad true 6 h26 v11) (some (.tup []))) fun v36 =>
 bcall (gua v35 true (E n_teller_Right [v36] h26) (some (.ret (.tup []), h26))) (fun v37 h38 =>
 bnd (oPick v35 v37 (.bool false)) fun v39 =>
 bnd (gua v39 true (oBuild [(.int .i64 0), (.str []), .nils, (.int .i64 0), (.int .i64 0), .nils] [(0, 1), (1, 1), (2, 1), (3, 1), (4, 1), (5, 1)] []) (some (.tup []))) fun v40 =>
 bcall (gua v39 true (E n_teller_Right [v40] h38) (some (.ret (.tup []), h38))) (fun v41 h42 =>
 bnd (gua v39 true (oUn .not v41) (some (.tup []))) fun v43 =>
 bnd (oPick v39 v43 (.bool false)) fun v44 =>
 bcall (gua v44 true (E n_teller_Name [(.str [97, 45, 49])] h42) (some (.ret (.tup []), h42))) (fun v45 h46 =>
 bnd (oPick v44 v45 (.bool false)) fun v47 =>
 rt false base v47 h46)
 (fun v45 h46 => pn false base v45 h46))
 (fun v41 h42 => pn false base v41 h42))
 (fun v37 h38 => pn false base v37 h38))
 (fun v25 h26 => pn false base v25 h26))
 (fun v18 h19 => pn false base v18 h19) := by kernel_rfl
theorem law04_awake_E (H : Heap) : E n_law04_awake [] H = law04_awake H.length  H := (EV_at Tryd.func9 (by kernel_rfl) (by kernel_rfl) (by kernel_rfl)).trans (by kernel_rfl)

def law04_Weight_c : Code := bodyOf Tryd.f10
def law04_Weight_ks : Ks := [(3, [0, 3, 4])]
def law04_Weight_e (base : Nat) : KC (Out × Heap) := xEnd Tryd.prog D false base 29 Tryd.f10.results.toList
def law04_Weight_C (base : Nat) (c : Code) (k : KC (Out × Heap)) (t : Ts) (H : Heap) (d : Ds) : Option (Out × Heap) := xC Tryd.prog base false law04_Weight_ks E 29 c k t H d
def law04_Weight_l1 (base : Nat) (t0 t3 t4 : V) (H : Heap) : Option (Out × Heap) :=
iterL (fun t H d again => law04_Weight_C base (cAt [1, 1, 0, 1, 0, 0] law04_Weight_c) (loopK law04_Weight_ks (cAt [1, 1, 0, 1, 0, 0] law04_Weight_c) again ((blockK 0 ((seqK (fun _ t => law04_Weight_C base (cAt [1, 1, 1] law04_Weight_c) (law04_Weight_e base) (trimA law04_Weight_ks (cAt [1, 1, 1] law04_Weight_c) t)) (law04_Weight_e base)))))) t H d) [(0, t0), (3, t3), (4, t4)] H []
theorem law04_Weight_l1_eq (base : Nat) (t0 t3 t4 : V) (H : Heap) : law04_Weight_l1 base t0 t3 t4 H =
 bnd (oLenSl t0) fun v0 =>
 bnd (oBin .lss 6 t4 v0) fun v1 =>
 cnd v1
 (bnd (oBin .add 6 t3 (.int .i64 1)) fun v2 =>
 bnd (oIndexPtr 8 t0 t4) fun v3 =>
 bnd (oFieldPtr v3 0) fun v4 =>
 bnd (oLoad false 1 H v4) fun v5 =>
 bnd (oLenStr v5) fun v6 =>
 bnd (oBin .add 6 v2 v6) fun v7 =>
 bnd (oIndexPtr 8 t0 t4) fun v8 =>
 bnd (oFieldPtr v8 2) fun v9 =>
 bnd (oLoad true 6 H v9) fun v10 =>
 bnd (oLit 6 1 (.agg [(.int .i64 0), (.str []), (.vs []), (.int .i64 0), (.int .i64 0), (.vs [])]) [(0, v10)]) fun v11 =>
 bcall (E n_law04_weight [v11] H) (fun v12 h13 =>
 sch (sam (oLoad false 1 h13 v4) v5) (
 bnd (oBin .add 6 v7 v12) fun v14 =>
 bnd (oBin .add 6 t4 (.int .i64 1)) fun v15 =>
 law04_Weight_l1 base t0 v14 v15 h13))
 (fun v12 h13 => pn false base v12 h13))
 (rt false base t3 H) := (loop_eq (cAt [1, 1, 0, 1, 0, 0] law04_Weight_c) ((blockK 0 ((seqK (fun _ t => law04_Weight_C base (cAt [1, 1, 1] law04_Weight_c) (law04_Weight_e base) (trimA law04_Weight_ks (cAt [1, 1, 1] law04_Weight_c) t)) (law04_Weight_e base))))) _ H []).trans (by kernel_rfl)
def law04_Weight (base : Nat) (t0 : V) (H : Heap) : Option (Out × Heap) := law04_Weight_C base law04_Weight_c (law04_Weight_e base) [(0, t0)] H []
theorem law04_Weight_eq (base : Nat) (t0 : V) (H : Heap) : law04_Weight base t0 H =
 law04_Weight_l1 base t0 (.int .i64 0) (.int .i64 0) H := by kernel_rfl
theorem law04_Weight_E (t0 : V) (H : Heap) : E n_law04_Weight [t0] H = law04_Weight H.length t0 H := (EV_at Tryd.func10 (by kernel_rfl) (by kernel_rfl) (by kernel_rfl)).trans (by kernel_rfl)

def law04_same_c : Code := bodyOf Tryd.f11
def law04_same_ks : Ks := [(4, [0, 3, 4, 5, 6, 7])]
def law04_same_e (base : Nat) : KC (Out × Heap) := xEnd Tryd.prog D false base 60 Tryd.f11.results.toList
def law04_same_C (base : Nat) (c : Code) (k : KC (Out × Heap)) (t : Ts) (H : Heap) (d : Ds) : Option (Out × Heap) := xC Tryd.prog base false law04_same_ks E 60 c k t H d
def law04_same_l1 (base : Nat) (t0 t3 t4 t5 t6 t7 : V) (H : Heap) : Option (Out × Heap) :=
iterL (fun t H d again => law04_same_C base (cAt [1, 1, 1, 0, 1, 0, 0] law04_same_c) (loopK law04_same_ks (cAt [1, 1, 1, 0, 1, 0, 0] law04_same_c) again ((blockK 0 ((seqK (fun _ t => law04_same_C base (cAt [1, 1, 1, 1] law04_same_c) (law04_same_e base) (trimA law04_same_ks (cAt [1, 1, 1, 1] law04_same_c) t)) (law04_same_e base)))))) t H d) [(0, t0), (3, t3), (4, t4), (5, t5), (6, t6), (7, t7)] H []
theorem law04_same_l1_eq (base : Nat) (t0 t3 t4 t5 t6 t7 : V) (H : Heap) : law04_same_l1 base t0 t3 t4 t5 t6 t7 H =
 bnd (oLenSl t0) fun v8 =>
 bnd (oBin .lss 6 t7 v8) fun v9 =>
 cnd v9
 (bnd (oIndexPtr 8 t0 t7) fun v10 =>
 bnd (oFieldPtr v10 0) fun v11 =>
 bnd (oLoad false 1 H v11) fun v12 =>
 bcall (E n_teller_Name [v12] H) (fun v13 h14 =>
 bnd (oIndexPtr 8 t0 t7) fun v15 =>
 bnd (oFieldPtr v15 0) fun v16 =>
 bnd (bnd (oLoad false 1 h14 v16) fun v17 => sch (sam (oLoad false 1 H v16) v17) (
 some v17)) fun v17 =>
 bcall (E n_ref04_Name [v17] h14) (fun v18 h19 =>
 bnd (oBin .neq 0 v13 v18) fun v20 =>
 bnd (gua v20 false (oMove t0) (some (.tup []))) fun v21 =>
 bnd (gua v20 false (oMove t7) (some (.tup []))) fun v22 =>
 bnd (gua v20 false (oIndexPtr 8 v21 v22) (some (.tup []))) fun v23 =>
 bnd (gua v20 false (oFieldPtr v23 2) (some (.tup []))) fun v24 =>
 bnd (gua v20 false (oLoad true 6 h19 v24) (some (.tup []))) fun v25 =>
 bcall (gua v20 false (E n_teller_Right [v25] h19) (some (.ret (.tup []), h19))) (fun v26 h27 =>
 bnd (gua v20 false (oMove t0) (some (.tup []))) fun v28 =>
 bnd (gua v20 false (oMove t7) (some (.tup []))) fun v29 =>
 bnd (gua v20 false (oIndexPtr 8 v28 v29) (some (.tup []))) fun v30 =>
 bnd (gua v20 false (oFieldPtr v30 2) (some (.tup []))) fun v31 =>
 bnd (gua v20 false (bnd (oLoad true 6 h27 v31) fun v32 => sch (sam (oLoad true 6 h19 v31) v32) (
 some v32)) (some (.tup []))) fun v32 =>
 bcall (gua v20 false (E n_ref04_Right [v32, (.int .i64 50)] h27) (some (.ret (.tup []), h27))) (fun v33 h34 =>
 bnd (gua v20 false (oBin .neq 0 v26 v33) (some (.tup []))) fun v35 =>
 bnd (oPick v20 (.bool true) v35) fun v36 =>
 cnd v36
 (rt false base (.bool false) h34)
 (bnd (oBin .add 6 t7 (.int .i64 1)) fun v37 =>
 law04_same_l1 base t0 t3 t4 t5 t6 v37 h34))
 (fun v33 h34 => pn false base v33 h34))
 (fun v26 h27 => sch (tlb (gua v20 false (oMove t0) (some (.tup []))) fun v38 => tlb (gua v20 false (oMove t7) (some (.tup []))) fun v39 => tlb (gua v20 false (oIndexPtr 8 v38 v39) (some (.tup []))) fun v40 => tlb (gua v20 false (oFieldPtr v40 2) (some (.tup []))) fun v41 => tlb (gua v20 false (oLoad true 6 h19 v41) (some (.tup []))) fun v42 => true) (pn false base v26 h27)))
 (fun v18 h19 => pn false base v18 h19))
 (fun v13 h14 => sch (tlb (oMove t0) fun v43 => tlb (oMove t7) fun v44 => tlb (oIndexPtr 8 v43 v44) fun v45 => tlb (oFieldPtr v45 0) fun v46 => tlb (oLoad false 1 H v46) fun v47 => true) (pn false base v13 h14)))
 (bnd (oBin .eql 6 t3 t5) fun v48 =>
 bnd (gua v48 true (oMove t4) (some (.tup []))) fun v49 =>
 bnd (gua v48 true (oMove t6) (some (.tup []))) fun v50 =>
 bnd (gua v48 true (oBin .eql 6 v49 v50) (some (.tup []))) fun v51 =>
 bnd (oPick v48 v51 (.bool false)) fun v52 =>
 rt false base v52 H) := (loop_eq (cAt [1, 1, 1, 0, 1, 0, 0] law04_same_c) ((blockK 0 ((seqK (fun _ t => law04_same_C base (cAt [1, 1, 1, 1] law04_same_c) (law04_same_e base) (trimA law04_same_ks (cAt [1, 1, 1, 1] law04_same_c) t)) (law04_same_e base))))) _ H []).trans (by kernel_rfl)
def law04_same (base : Nat) (t0 : V) (H : Heap) : Option (Out × Heap) := law04_same_C base law04_same_c (law04_same_e base) [(0, t0)] H []
theorem law04_same_eq (base : Nat) (t0 : V) (H : Heap) : law04_same base t0 H =
 bcall (E n_teller_Tell [t0] H) (fun v0 h1 =>
 bnd (oExtract v0 0) fun v2 =>
 bnd (oExtract v0 1) fun v3 =>
 bcall (E n_ref04_Tell [t0] h1) (fun v4 h5 =>
 bnd (oExtract v4 0) fun v6 =>
 bnd (oExtract v4 1) fun v7 =>
 law04_same_l1 base t0 v2 v3 v6 v7 (.int .i64 0) h5)
 (fun v4 h5 => pn false base v4 h5))
 (fun v0 h1 => pn false base v0 h1) := by kernel_rfl
theorem law04_same_E (t0 : V) (H : Heap) : E n_law04_same [t0] H = law04_same H.length t0 H := (EV_at Tryd.func11 (by kernel_rfl) (by kernel_rfl) (by kernel_rfl)).trans (by kernel_rfl)

def law04_Made_c : Code := bodyOf Tryd.f12
def law04_Made_ks : Ks := [(4, [3, 4, 5])]
def law04_Made_e (base : Nat) : KC (Out × Heap) := xEnd Tryd.prog D false base 34 Tryd.f12.results.toList
def law04_Made_C (base : Nat) (c : Code) (k : KC (Out × Heap)) (t : Ts) (H : Heap) (d : Ds) : Option (Out × Heap) := xC Tryd.prog base false law04_Made_ks E 34 c k t H d
def law04_Made_l1 (base : Nat) (t3 t4 t5 : V) (H : Heap) : Option (Out × Heap) :=
iterL (fun t H d again => law04_Made_C base (cAt [1, 1, 1, 0, 1, 0, 0] law04_Made_c) (loopK law04_Made_ks (cAt [1, 1, 1, 0, 1, 0, 0] law04_Made_c) again ((blockK 0 ((seqK (fun _ t => law04_Made_C base (cAt [1, 1, 1, 1] law04_Made_c) (law04_Made_e base) (trimA law04_Made_ks (cAt [1, 1, 1, 1] law04_Made_c) t)) (law04_Made_e base)))))) t H d) [(3, t3), (4, t4), (5, t5)] H []
theorem law04_Made_l1_eq (base : Nat) (t3 t4 t5 : V) (H : Heap) : law04_Made_l1 base t3 t4 t5 H =
 bnd (oBin .gtr 6 t5 (.int .i64 0)) fun v6 =>
 cnd v6
 (bnd (oLit 1 5 (.str []) [(0, (.str [97])), (1, (.str [98])), (2, (.str [99])), (3, (.str [119, 111, 114, 100])), (4, (.str [120, 45, 49]))]) fun v7 =>
 bcall (E n_law04_picker_pick [t3, (.int .i64 5)] H) (fun v8 h9 =>
 bnd (oIndexPtr 1 v7 v8) fun v10 =>
 bnd (oLoad false 1 h9 v10) fun v11 =>
 bcall (E n_law04_picker_pick [t3, (.int .i64 5)] h9) (fun v12 h13 =>
 sch (sam (oLoad false 1 h13 v10) v11) (
 bnd (oBin .eql 6 v12 (.int .i64 4)) fun v14 =>
 bnd (oBuild [(.str []), (.bool false), (.int .i64 0), (.str []), .nils, (.int .i64 0), (.int .i64 0), .nils] [(0, 1), (1, 1), (2, 6)] [(0, v11), (1, v14)]) fun v15 =>
 beff (oVar h13 (.agg [(.str []), (.bool false), (.int .i64 0), (.str []), .nils, (.int .i64 0), (.int .i64 0), .nils])) fun v16 h17 =>
 sch (sam (oLoad false 1 h17 v10) v11) (
 beff (oStore base 8 h17 v16 v15) fun v18 h19 =>
 bcall (E n_law04_picker_expr [t3, (.int .i64 3)] h19) (fun v20 h21 =>
 bnd (oFieldPtr v16 2) fun v22 =>
 beff (oStore base 6 h21 v22 v20) fun v23 h24 =>
 bnd (oLoad true 8 h24 v16) fun v25 =>
 bnd (oLit 8 1 (.agg [(.str []), (.bool false), (.int .i64 0), (.str []), (.vs []), (.int .i64 0), (.int .i64 0), (.vs [])]) [(0, v25)]) fun v26 =>
 beff (oAppend base 8 112 true t4 v26 h24) fun v27 h28 =>
 bnd (oBin .sub 6 t5 (.int .i64 1)) fun v29 =>
 law04_Made_l1 base t3 v27 v29 h28)
 (fun v20 h21 => pn false base v20 h21))))
 (fun v12 h13 => sch (false) (pn false base v12 h13)))
 (fun v8 h9 => sch (tlb (oMove t3) fun v31 => false) (pn false base v8 h9)))
 (rt false base t4 H) := (loop_eq (cAt [1, 1, 1, 0, 1, 0, 0] law04_Made_c) ((blockK 0 ((seqK (fun _ t => law04_Made_C base (cAt [1, 1, 1, 1] law04_Made_c) (law04_Made_e base) (trimA law04_Made_ks (cAt [1, 1, 1, 1] law04_Made_c) t)) (law04_Made_e base))))) _ H []).trans (by kernel_rfl)
def law04_Made (base : Nat) (t0 : V) (H : Heap) : Option (Out × Heap) := law04_Made_C base law04_Made_c (law04_Made_e base) [(0, t0)] H []
theorem law04_Made_eq (base : Nat) (t0 : V) (H : Heap) : law04_Made base t0 H =
 bnd (oBuild [.nils, (.int .i64 0)] [(0, 1), (1, 1)] [(0, t0)]) fun v0 =>
 beff (oVar H v0) fun v1 h2 =>
 bcall (E n_law04_picker_pick [v1, (.int .i64 5)] h2) (fun v3 h4 =>
 bnd (oBin .add 6 (.int .i64 1) v3) fun v5 =>
 law04_Made_l1 base v1 .nils v5 h4)
 (fun v3 h4 => pn false base v3 h4) := by kernel_rfl
theorem law04_Made_E (t0 : V) (H : Heap) : E n_law04_Made [t0] H = law04_Made H.length t0 H := (EV_at Tryd.func12 (by kernel_rfl) (by kernel_rfl) (by kernel_rfl)).trans (by kernel_rfl)

def ref03_Read_c : Code := bodyOf Tryd.f14
def ref03_Read_ks : Ks := [(5, [0, 4, 5]), (7, [0, 4, 5, 6])]
def ref03_Read_e (base : Nat) : KC (Out × Heap) := xEnd Tryd.prog D false base 79 Tryd.f14.results.toList
def ref03_Read_C (base : Nat) (c : Code) (k : KC (Out × Heap)) (t : Ts) (H : Heap) (d : Ds) : Option (Out × Heap) := xC Tryd.prog base false ref03_Read_ks E 79 c k t H d
def ref03_Read_l1 (base : Nat) (t0 t4 t5 : V) (H : Heap) : Option (Out × Heap) :=
iterL (fun t H d again => ref03_Read_C base (cAt [1, 1, 1, 1, 0, 0, 0] ref03_Read_c) (loopK ref03_Read_ks (cAt [1, 1, 1, 1, 0, 0, 0] ref03_Read_c) again ((blockK 0 ((seqK (fun _ t => ref03_Read_C base (cAt [1, 1, 1, 1, 1] ref03_Read_c) (ref03_Read_e base) (trimA ref03_Read_ks (cAt [1, 1, 1, 1, 1] ref03_Read_c) t)) (ref03_Read_e base)))))) t H d) [(0, t0), (4, t4), (5, t5)] H []
def ref03_Read_l2 (base : Nat) (t0 t4 t5 t6 : V) (H : Heap) : Option (Out × Heap) :=
iterL (fun t H d again => ref03_Read_C base (cAt [1, 1, 1, 1, 0, 0, 0, 1, 0, 1, 0, 0, 0] ref03_Read_c) (loopK ref03_Read_ks (cAt [1, 1, 1, 1, 0, 0, 0, 1, 0, 1, 0, 0, 0] ref03_Read_c) again ((blockK 2 ((seqK (fun _ t => ref03_Read_C base (cAt [1, 1, 1, 1, 0, 0, 0, 1, 0, 1, 1] ref03_Read_c) ((blockK 1 ((loopK ref03_Read_ks (cAt [1, 1, 1, 1, 0, 0, 0] ref03_Read_c) (iterL (fun t H d again => ref03_Read_C base (cAt [1, 1, 1, 1, 0, 0, 0] ref03_Read_c) (loopK ref03_Read_ks (cAt [1, 1, 1, 1, 0, 0, 0] ref03_Read_c) again ((blockK 0 ((seqK (fun _ t => ref03_Read_C base (cAt [1, 1, 1, 1, 1] ref03_Read_c) (ref03_Read_e base) (trimA ref03_Read_ks (cAt [1, 1, 1, 1, 1] ref03_Read_c) t)) (ref03_Read_e base)))))) t H d)) ((blockK 0 ((seqK (fun _ t => ref03_Read_C base (cAt [1, 1, 1, 1, 1] ref03_Read_c) (ref03_Read_e base) (trimA ref03_Read_ks (cAt [1, 1, 1, 1, 1] ref03_Read_c) t)) (ref03_Read_e base))))))))) (trimA ref03_Read_ks (cAt [1, 1, 1, 1, 0, 0, 0, 1, 0, 1, 1] ref03_Read_c) t)) ((blockK 1 ((loopK ref03_Read_ks (cAt [1, 1, 1, 1, 0, 0, 0] ref03_Read_c) (iterL (fun t H d again => ref03_Read_C base (cAt [1, 1, 1, 1, 0, 0, 0] ref03_Read_c) (loopK ref03_Read_ks (cAt [1, 1, 1, 1, 0, 0, 0] ref03_Read_c) again ((blockK 0 ((seqK (fun _ t => ref03_Read_C base (cAt [1, 1, 1, 1, 1] ref03_Read_c) (ref03_Read_e base) (trimA ref03_Read_ks (cAt [1, 1, 1, 1, 1] ref03_Read_c) t)) (ref03_Read_e base)))))) t H d)) ((blockK 0 ((seqK (fun _ t => ref03_Read_C base (cAt [1, 1, 1, 1, 1] ref03_Read_c) (ref03_Read_e base) (trimA ref03_Read_ks (cAt [1, 1, 1, 1, 1] ref03_Read_c) t)) (ref03_Read_e base)))))))))))))) t H d) [(0, t0), (4, t4), (5, t5), (6, t6)] H []
theorem ref03_Read_l2_eq (base : Nat) (t0 t4 t5 t6 : V) (H : Heap) : ref03_Read_l2 base t0 t4 t5 t6 H =
 bcall (E n_ref03_reader_at [t4, (.int .i64 0)] H) (fun v19 h20 =>
 bcall (E n_ref03_blank [v19] h20) (fun v21 h22 =>
 cnd v21
 (bnd (oNil t4) fun v23 =>
 bnd (oFieldPtr v23 1) fun v24 =>
 bnd (oLoad false 1 h22 v24) fun v25 =>
 bnd (oBin .add 6 v25 (.int .i64 1)) fun v26 =>
 bnd (oNil t4) fun v27 =>
 bnd (oFieldPtr v27 1) fun v28 =>
 beff (oStore base 1 h22 v28 v26) fun v29 h30 =>
 ref03_Read_l2 base t0 t4 t5 t6 h30)
 (bcall (E n_ref03_reader_ends [t4] h22) (fun v31 h32 =>
 bnd (oBin .geq 6 v31 (.int .i64 0)) fun v33 =>
 cnd v33
 (bnd (oNil t4) fun v34 =>
 bnd (oFieldPtr v34 1) fun v35 =>
 bnd (oLoad false 1 h32 v35) fun v36 =>
 bnd (oBin .add 6 v36 v31) fun v37 =>
 bnd (oNil t4) fun v38 =>
 bnd (oFieldPtr v38 1) fun v39 =>
 beff (oStore base 1 h32 v39 v37) fun v40 h41 =>
 ref03_Read_l1 base t0 t4 t5 h41)
 (bnd (oNil t4) fun v42 =>
 bnd (oFieldPtr v42 1) fun v43 =>
 beff (oStore base 1 h32 v43 t6) fun v44 h45 =>
 bcall (E n_ref03_reader_rule [t4] h45) (fun v46 h47 =>
 bnd (oLit 8 1 (.agg [(.str []), (.bool false), (.int .i64 0), (.str []), (.vs []), (.int .i64 0), (.int .i64 0), (.vs [])]) [(0, v46)]) fun v48 =>
 beff (oAppend base 8 112 true t5 v48 h47) fun v49 h50 =>
 bnd (oLenSl v49) fun v51 =>
 bnd (oBin .gtr 6 v51 (.int .i64 500)) fun v52 =>
 cnd v52
 (bcall (E n_ref03_reader_fail [t4, (.int .i64 2)] h50) (fun v53 h54 =>
 ref03_Read_l1 base t0 t4 v49 h54)
 (fun v53 h54 => pn false base v53 h54))
 (ref03_Read_l1 base t0 t4 v49 h50))
 (fun v46 h47 => pn false base v46 h47)))
 (fun v31 h32 => pn false base v31 h32)))
 (fun v21 h22 => pn false base v21 h22))
 (fun v19 h20 => pn false base v19 h20) := (loop_eq (cAt [1, 1, 1, 1, 0, 0, 0, 1, 0, 1, 0, 0, 0] ref03_Read_c) ((blockK 2 ((seqK (fun _ t => ref03_Read_C base (cAt [1, 1, 1, 1, 0, 0, 0, 1, 0, 1, 1] ref03_Read_c) ((blockK 1 ((loopK ref03_Read_ks (cAt [1, 1, 1, 1, 0, 0, 0] ref03_Read_c) (iterL (fun t H d again => ref03_Read_C base (cAt [1, 1, 1, 1, 0, 0, 0] ref03_Read_c) (loopK ref03_Read_ks (cAt [1, 1, 1, 1, 0, 0, 0] ref03_Read_c) again ((blockK 0 ((seqK (fun _ t => ref03_Read_C base (cAt [1, 1, 1, 1, 1] ref03_Read_c) (ref03_Read_e base) (trimA ref03_Read_ks (cAt [1, 1, 1, 1, 1] ref03_Read_c) t)) (ref03_Read_e base)))))) t H d)) ((blockK 0 ((seqK (fun _ t => ref03_Read_C base (cAt [1, 1, 1, 1, 1] ref03_Read_c) (ref03_Read_e base) (trimA ref03_Read_ks (cAt [1, 1, 1, 1, 1] ref03_Read_c) t)) (ref03_Read_e base))))))))) (trimA ref03_Read_ks (cAt [1, 1, 1, 1, 0, 0, 0, 1, 0, 1, 1] ref03_Read_c) t)) ((blockK 1 ((loopK ref03_Read_ks (cAt [1, 1, 1, 1, 0, 0, 0] ref03_Read_c) (iterL (fun t H d again => ref03_Read_C base (cAt [1, 1, 1, 1, 0, 0, 0] ref03_Read_c) (loopK ref03_Read_ks (cAt [1, 1, 1, 1, 0, 0, 0] ref03_Read_c) again ((blockK 0 ((seqK (fun _ t => ref03_Read_C base (cAt [1, 1, 1, 1, 1] ref03_Read_c) (ref03_Read_e base) (trimA ref03_Read_ks (cAt [1, 1, 1, 1, 1] ref03_Read_c) t)) (ref03_Read_e base)))))) t H d)) ((blockK 0 ((seqK (fun _ t => ref03_Read_C base (cAt [1, 1, 1, 1, 1] ref03_Read_c) (ref03_Read_e base) (trimA ref03_Read_ks (cAt [1, 1, 1, 1, 1] ref03_Read_c) t)) (ref03_Read_e base))))))))))))) _ H []).trans (by kernel_rfl)
theorem ref03_Read_l1_eq (base : Nat) (t0 t4 t5 : V) (H : Heap) : ref03_Read_l1 base t0 t4 t5 H =
 bnd (oNil t4) fun v5 =>
 bnd (oFieldPtr v5 1) fun v6 =>
 bnd (oLoad false 1 H v6) fun v7 =>
 bnd (oLenStr t0) fun v8 =>
 bnd (oBin .lss 6 v7 v8) fun v9 =>
 bnd (gua v9 true (oMove t4) (some (.tup []))) fun v10 =>
 bnd (gua v9 true (oNil v10) (some (.tup []))) fun v11 =>
 bnd (gua v9 true (oFieldPtr v11 2) (some (.tup []))) fun v12 =>
 bnd (gua v9 true (oLoad false 1 H v12) (some (.tup []))) fun v13 =>
 bnd (gua v9 true (oBin .eql 6 v13 (.int .i64 0)) (some (.tup []))) fun v14 =>
 bnd (oPick v9 v14 (.bool false)) fun v15 =>
 cnd v15
 (bnd (oNil t4) fun v16 =>
 bnd (oFieldPtr v16 1) fun v17 =>
 bnd (oLoad false 1 H v17) fun v18 =>
 ref03_Read_l2 base t0 t4 t5 v18 H)
 (bnd (oNil t4) fun v55 =>
 bnd (oFieldPtr v55 2) fun v56 =>
 bnd (oLoad false 1 H v56) fun v57 =>
 bnd (oBin .neq 6 v57 (.int .i64 0)) fun v58 =>
 cnd v58
 (bnd (oNil t4) fun v59 =>
 bnd (oFieldPtr v59 2) fun v60 =>
 bnd (oLoad false 1 H v60) fun v61 =>
 rt false base (.tup [.nils, v61]) H)
 (rt false base (.tup [t5, (.int .i64 0)]) H)) := (loop_eq (cAt [1, 1, 1, 1, 0, 0, 0] ref03_Read_c) ((blockK 0 ((seqK (fun _ t => ref03_Read_C base (cAt [1, 1, 1, 1, 1] ref03_Read_c) (ref03_Read_e base) (trimA ref03_Read_ks (cAt [1, 1, 1, 1, 1] ref03_Read_c) t)) (ref03_Read_e base))))) _ H []).trans (by kernel_rfl)
def ref03_Read (base : Nat) (t0 : V) (H : Heap) : Option (Out × Heap) := ref03_Read_C base ref03_Read_c (ref03_Read_e base) [(0, t0)] H []
theorem ref03_Read_eq (base : Nat) (t0 : V) (H : Heap) : ref03_Read base t0 H =
 bnd (oLenStr t0) fun v0 =>
 bnd (oBin .gtr 6 v0 (.int .i64 50000)) fun v1 =>
 cnd v1
 (rt false base (.tup [.nils, (.int .i64 2)]) H)
 (bnd (oBuild [(.str []), (.int .i64 0), (.int .i64 0)] [(0, 1), (1, 1), (2, 1)] [(0, t0)]) fun v2 =>
 beff (oVar H v2) fun v3 h4 =>
 ref03_Read_l1 base t0 v3 .nils h4) := by kernel_rfl
theorem ref03_Read_E (t0 : V) (H : Heap) : E n_ref03_Read [t0] H = ref03_Read H.length t0 H := (EV_at Tryd.func14 (by kernel_rfl) (by kernel_rfl) (by kernel_rfl)).trans (by kernel_rfl)

def ref03_SameLines_c : Code := bodyOf Tryd.f15
def ref03_SameLines_ks : Ks := [(4, [0, 1, 5])]
def ref03_SameLines_e (base : Nat) : KC (Out × Heap) := xEnd Tryd.prog D false base 55 Tryd.f15.results.toList
def ref03_SameLines_C (base : Nat) (c : Code) (k : KC (Out × Heap)) (t : Ts) (H : Heap) (d : Ds) : Option (Out × Heap) := xC Tryd.prog base false ref03_SameLines_ks E 55 c k t H d
def ref03_SameLines_l1 (base : Nat) (t0 t1 t5 : V) (H : Heap) : Option (Out × Heap) :=
iterL (fun t H d again => ref03_SameLines_C base (cAt [1, 1, 0, 1, 0, 0] ref03_SameLines_c) (loopK ref03_SameLines_ks (cAt [1, 1, 0, 1, 0, 0] ref03_SameLines_c) again ((blockK 0 ((seqK (fun _ t => ref03_SameLines_C base (cAt [1, 1, 1] ref03_SameLines_c) (ref03_SameLines_e base) (trimA ref03_SameLines_ks (cAt [1, 1, 1] ref03_SameLines_c) t)) (ref03_SameLines_e base)))))) t H d) [(0, t0), (1, t1), (5, t5)] H []
theorem ref03_SameLines_l1_eq (base : Nat) (t0 t1 t5 : V) (H : Heap) : ref03_SameLines_l1 base t0 t1 t5 H =
 bnd (oLenSl t0) fun v3 =>
 bnd (oBin .lss 6 t5 v3) fun v4 =>
 cnd v4
 (bnd (oIndexPtr 8 t0 t5) fun v5 =>
 bnd (oFieldPtr v5 0) fun v6 =>
 bnd (oLoad false 1 H v6) fun v7 =>
 bnd (oIndexPtr 8 t1 t5) fun v8 =>
 bnd (oFieldPtr v8 0) fun v9 =>
 bnd (oLoad false 1 H v9) fun v10 =>
 bnd (oBin .neq 6 v7 v10) fun v11 =>
 bnd (gua v11 false (oMove t0) (some (.tup []))) fun v12 =>
 bnd (gua v11 false (oMove t5) (some (.tup []))) fun v13 =>
 bnd (gua v11 false (oIndexPtr 8 v12 v13) (some (.tup []))) fun v14 =>
 bnd (gua v11 false (oFieldPtr v14 1) (some (.tup []))) fun v15 =>
 bnd (gua v11 false (oLoad false 1 H v15) (some (.tup []))) fun v16 =>
 bnd (gua v11 false (oMove t1) (some (.tup []))) fun v17 =>
 bnd (gua v11 false (oMove t5) (some (.tup []))) fun v18 =>
 bnd (gua v11 false (oIndexPtr 8 v17 v18) (some (.tup []))) fun v19 =>
 bnd (gua v11 false (oFieldPtr v19 1) (some (.tup []))) fun v20 =>
 bnd (gua v11 false (oLoad false 1 H v20) (some (.tup []))) fun v21 =>
 bnd (gua v11 false (oBin .neq 0 v16 v21) (some (.tup []))) fun v22 =>
 bnd (oPick v11 (.bool true) v22) fun v23 =>
 bnd (gua v23 false (oMove t0) (some (.tup []))) fun v24 =>
 bnd (gua v23 false (oMove t5) (some (.tup []))) fun v25 =>
 bnd (gua v23 false (oIndexPtr 8 v24 v25) (some (.tup []))) fun v26 =>
 bnd (gua v23 false (oFieldPtr v26 2) (some (.tup []))) fun v27 =>
 bnd (gua v23 false (oLoad true 6 H v27) (some (.tup []))) fun v28 =>
 bnd (gua v23 false (oMove t1) (some (.tup []))) fun v29 =>
 bnd (gua v23 false (oMove t5) (some (.tup []))) fun v30 =>
 bnd (gua v23 false (oIndexPtr 8 v29 v30) (some (.tup []))) fun v31 =>
 bnd (gua v23 false (oFieldPtr v31 2) (some (.tup []))) fun v32 =>
 bnd (gua v23 false (oLoad true 6 H v32) (some (.tup []))) fun v33 =>
 bcall (gua v23 false (E n_ref03_Same [v28, v33] H) (some (.ret (.tup []), H))) (fun v34 h35 =>
 bnd (gua v23 false (oUn .not v34) (some (.tup []))) fun v36 =>
 bnd (oPick v23 (.bool true) v36) fun v37 =>
 cnd v37
 (rt false base (.bool false) h35)
 (bnd (oBin .add 6 t5 (.int .i64 1)) fun v38 =>
 ref03_SameLines_l1 base t0 t1 v38 h35))
 (fun v34 h35 => pn false base v34 h35))
 (rt false base (.bool true) H) := (loop_eq (cAt [1, 1, 0, 1, 0, 0] ref03_SameLines_c) ((blockK 0 ((seqK (fun _ t => ref03_SameLines_C base (cAt [1, 1, 1] ref03_SameLines_c) (ref03_SameLines_e base) (trimA ref03_SameLines_ks (cAt [1, 1, 1] ref03_SameLines_c) t)) (ref03_SameLines_e base))))) _ H []).trans (by kernel_rfl)
def ref03_SameLines (base : Nat) (t0 t1 : V) (H : Heap) : Option (Out × Heap) := ref03_SameLines_C base ref03_SameLines_c (ref03_SameLines_e base) [(0, t0), (1, t1)] H []
theorem ref03_SameLines_eq (base : Nat) (t0 t1 : V) (H : Heap) : ref03_SameLines base t0 t1 H =
 bnd (oLenSl t0) fun v0 =>
 bnd (oLenSl t1) fun v1 =>
 bnd (oBin .neq 6 v0 v1) fun v2 =>
 cnd v2
 (rt false base (.bool false) H)
 (ref03_SameLines_l1 base t0 t1 (.int .i64 0) H) := by kernel_rfl
theorem ref03_SameLines_E (t0 t1 : V) (H : Heap) : E n_ref03_SameLines [t0, t1] H = ref03_SameLines H.length t0 t1 H := (EV_at Tryd.func15 (by kernel_rfl) (by kernel_rfl) (by kernel_rfl)).trans (by kernel_rfl)

def law03_Pieces_c : Code := bodyOf Tryd.f16
def law03_Pieces_ks : Ks := [(3, [0, 1, 5, 6])]
def law03_Pieces_e (base : Nat) : KC (Out × Heap) := xEnd Tryd.prog D false base 31 Tryd.f16.results.toList
def law03_Pieces_C (base : Nat) (c : Code) (k : KC (Out × Heap)) (t : Ts) (H : Heap) (d : Ds) : Option (Out × Heap) := xC Tryd.prog base false law03_Pieces_ks E 31 c k t H d
def law03_Pieces_l1 (base : Nat) (t0 t1 t5 t6 : V) (H : Heap) : Option (Out × Heap) :=
iterL (fun t H d again => law03_Pieces_C base (cAt [1, 1, 0, 1, 0, 0] law03_Pieces_c) (loopK law03_Pieces_ks (cAt [1, 1, 0, 1, 0, 0] law03_Pieces_c) again ((blockK 0 ((seqK (fun _ t => law03_Pieces_C base (cAt [1, 1, 1] law03_Pieces_c) (law03_Pieces_e base) (trimA law03_Pieces_ks (cAt [1, 1, 1] law03_Pieces_c) t)) (law03_Pieces_e base)))))) t H d) [(0, t0), (1, t1), (5, t5), (6, t6)] H []
theorem law03_Pieces_l1_eq (base : Nat) (t0 t1 t5 t6 : V) (H : Heap) : law03_Pieces_l1 base t0 t1 t5 t6 H =
 bnd (oLenSl t0) fun v0 =>
 bnd (oBin .lss 6 t6 v0) fun v1 =>
 bnd (gua v1 true (oMove t6) (some (.tup []))) fun v2 =>
 bnd (gua v1 true (oBin .lss 6 v2 (.int .i64 14)) (some (.tup []))) fun v3 =>
 bnd (oPick v1 v3 (.bool false)) fun v4 =>
 cnd v4
 (bnd (oIndexPtr 1 t0 t6) fun v5 =>
 bnd (oLoad false 1 H v5) fun v6 =>
 bnd (oIntTo .i64 v6) fun v7 =>
 bnd (oLenSl t1) fun v8 =>
 bnd (oBin .rem 6 v7 v8) fun v9 =>
 bnd (oIndexPtr 1 t1 v9) fun v10 =>
 bnd (oLoad false 1 H v10) fun v11 =>
 bnd (oBin .add 6 t5 v11) fun v12 =>
 bnd (oBin .add 6 t6 (.int .i64 1)) fun v13 =>
 law03_Pieces_l1 base t0 t1 v12 v13 H)
 (rt false base t5 H) := (loop_eq (cAt [1, 1, 0, 1, 0, 0] law03_Pieces_c) ((blockK 0 ((seqK (fun _ t => law03_Pieces_C base (cAt [1, 1, 1] law03_Pieces_c) (law03_Pieces_e base) (trimA law03_Pieces_ks (cAt [1, 1, 1] law03_Pieces_c) t)) (law03_Pieces_e base))))) _ H []).trans (by kernel_rfl)
def law03_Pieces (base : Nat) (t0 t1 : V) (H : Heap) : Option (Out × Heap) := law03_Pieces_C base law03_Pieces_c (law03_Pieces_e base) [(0, t0), (1, t1)] H []
theorem law03_Pieces_eq (base : Nat) (t0 t1 : V) (H : Heap) : law03_Pieces base t0 t1 H =
 law03_Pieces_l1 base t0 t1 (.str []) (.int .i64 0) H := by kernel_rfl
theorem law03_Pieces_E (t0 t1 : V) (H : Heap) : E n_law03_Pieces [t0, t1] H = law03_Pieces H.length t0 t1 H := (EV_at Tryd.func16 (by kernel_rfl) (by kernel_rfl) (by kernel_rfl)).trans (by kernel_rfl)

def teller_Name_c : Code := bodyOf Tryd.f17
def teller_Name_ks : Ks := []
def teller_Name_e (base : Nat) : KC (Out × Heap) := xEnd Tryd.prog D false base 20 Tryd.f17.results.toList
def teller_Name_C (base : Nat) (c : Code) (k : KC (Out × Heap)) (t : Ts) (H : Heap) (d : Ds) : Option (Out × Heap) := xC Tryd.prog base false teller_Name_ks E 20 c k t H d
def teller_Name (base : Nat) (t0 : V) (H : Heap) : Option (Out × Heap) := teller_Name_C base teller_Name_c (teller_Name_e base) [(0, t0)] H []
theorem teller_Name_eq (base : Nat) (t0 : V) (H : Heap) : teller_Name base t0 H =
 bnd (oBin .neq 6 t0 (.str [])) fun v0 =>
 bnd (gua v0 true (oMove t0) (some (.tup []))) fun v1 =>
 bnd (gua v0 true (oLenStr v1) (some (.tup []))) fun v2 =>
 bnd (gua v0 true (oBin .leq 6 v2 (.int .i64 40)) (some (.tup []))) fun v3 =>
 bnd (oPick v0 v3 (.bool false)) fun v4 =>
 bnd (gua v4 true (oMove t0) (some (.tup []))) fun v5 =>
 bnd (gua v4 true (oIndexStr v5 (.int .i64 0)) (some (.tup []))) fun v6 =>
 bcall (gua v4 true (E n_strings_IndexByte [(.str [97, 98, 99, 100, 101, 102, 103, 104, 105, 106, 107, 108, 109, 110, 111, 112, 113, 114, 115, 116, 117, 118, 119, 120, 121, 122]), v6] H) (some (.ret (.tup []), H))) (fun v7 h8 =>
 bnd (gua v4 true (oBin .geq 6 v7 (.int .i64 0)) (some (.tup []))) fun v9 =>
 bnd (oPick v4 v9 (.bool false)) fun v10 =>
 bnd (gua v10 true (oMove t0) (some (.tup []))) fun v11 =>
 bcall (gua v10 true (E n_teller_plain [v11, (.str [97, 98, 99, 100, 101, 102, 103, 104, 105, 106, 107, 108, 109, 110, 111, 112, 113, 114, 115, 116, 117, 118, 119, 120, 121, 122, 48, 49, 50, 51, 52, 53, 54, 55, 56, 57, 45])] h8) (some (.ret (.tup []), h8))) (fun v12 h13 =>
 bnd (oPick v10 v12 (.bool false)) fun v14 =>
 rt false base v14 h13)
 (fun v12 h13 => pn false base v12 h13))
 (fun v7 h8 => pn false base v7 h8) := by kernel_rfl
theorem teller_Name_E (t0 : V) (H : Heap) : E n_teller_Name [t0] H = teller_Name H.length t0 H := (EV_at Tryd.func17 (by kernel_rfl) (by kernel_rfl) (by kernel_rfl)).trans (by kernel_rfl)

def ref04_Name_c : Code := bodyOf Tryd.f18
def ref04_Name_ks : Ks := [(4, [0, 3])]
def ref04_Name_e (base : Nat) : KC (Out × Heap) := xEnd Tryd.prog D false base 41 Tryd.f18.results.toList
def ref04_Name_C (base : Nat) (c : Code) (k : KC (Out × Heap)) (t : Ts) (H : Heap) (d : Ds) : Option (Out × Heap) := xC Tryd.prog base false ref04_Name_ks E 41 c k t H d
def ref04_Name_l1 (base : Nat) (t0 t3 : V) (H : Heap) : Option (Out × Heap) :=
iterL (fun t H d again => ref04_Name_C base (cAt [1, 1, 0, 1, 0, 0] ref04_Name_c) (loopK ref04_Name_ks (cAt [1, 1, 0, 1, 0, 0] ref04_Name_c) again ((blockK 0 ((seqK (fun _ t => ref04_Name_C base (cAt [1, 1, 1] ref04_Name_c) (ref04_Name_e base) (trimA ref04_Name_ks (cAt [1, 1, 1] ref04_Name_c) t)) (ref04_Name_e base)))))) t H d) [(0, t0), (3, t3)] H []
theorem ref04_Name_l1_eq (base : Nat) (t0 t3 : V) (H : Heap) : ref04_Name_l1 base t0 t3 H =
 bnd (oLenStr t0) fun v11 =>
 bnd (oBin .lss 6 t3 v11) fun v12 =>
 cnd v12
 (bnd (oIndexStr t0 t3) fun v13 =>
 bcall (E n_ref04_letter [v13] H) (fun v14 h15 =>
 bnd (oUn .not v14) fun v16 =>
 bnd (gua v16 true (oMove t0) (some (.tup []))) fun v17 =>
 bnd (gua v16 true (oMove t3) (some (.tup []))) fun v18 =>
 bnd (gua v16 true (oIndexStr v17 v18) (some (.tup []))) fun v19 =>
 bcall (gua v16 true (E n_ref04_digit [v19] h15) (some (.ret (.tup []), h15))) (fun v20 h21 =>
 bnd (gua v16 true (oUn .not v20) (some (.tup []))) fun v22 =>
 bnd (oPick v16 v22 (.bool false)) fun v23 =>
 bnd (gua v23 true (oMove t0) (some (.tup []))) fun v24 =>
 bnd (gua v23 true (oMove t3) (some (.tup []))) fun v25 =>
 bnd (gua v23 true (oIndexStr v24 v25) (some (.tup []))) fun v26 =>
 bnd (gua v23 true (oBin .neq 6 v26 (.int .u8 45)) (some (.tup []))) fun v27 =>
 bnd (oPick v23 v27 (.bool false)) fun v28 =>
 cnd v28
 (rt false base (.bool false) h21)
 (bnd (oBin .add 6 t3 (.int .i64 1)) fun v29 =>
 ref04_Name_l1 base t0 v29 h21))
 (fun v20 h21 => pn false base v20 h21))
 (fun v14 h15 => pn false base v14 h15))
 (rt false base (.bool true) H) := (loop_eq (cAt [1, 1, 0, 1, 0, 0] ref04_Name_c) ((blockK 0 ((seqK (fun _ t => ref04_Name_C base (cAt [1, 1, 1] ref04_Name_c) (ref04_Name_e base) (trimA ref04_Name_ks (cAt [1, 1, 1] ref04_Name_c) t)) (ref04_Name_e base))))) _ H []).trans (by kernel_rfl)
def ref04_Name (base : Nat) (t0 : V) (H : Heap) : Option (Out × Heap) := ref04_Name_C base ref04_Name_c (ref04_Name_e base) [(0, t0)] H []
theorem ref04_Name_eq (base : Nat) (t0 : V) (H : Heap) : ref04_Name base t0 H =
 bnd (oBin .eql 6 t0 (.str [])) fun v0 =>
 bnd (gua v0 false (oMove t0) (some (.tup []))) fun v1 =>
 bnd (gua v0 false (oLenStr v1) (some (.tup []))) fun v2 =>
 bnd (gua v0 false (oBin .gtr 6 v2 (.int .i64 40)) (some (.tup []))) fun v3 =>
 bnd (oPick v0 (.bool true) v3) fun v4 =>
 bnd (gua v4 false (oMove t0) (some (.tup []))) fun v5 =>
 bnd (gua v4 false (oIndexStr v5 (.int .i64 0)) (some (.tup []))) fun v6 =>
 bcall (gua v4 false (E n_ref04_letter [v6] H) (some (.ret (.tup []), H))) (fun v7 h8 =>
 bnd (gua v4 false (oUn .not v7) (some (.tup []))) fun v9 =>
 bnd (oPick v4 (.bool true) v9) fun v10 =>
 cnd v10
 (rt false base (.bool false) h8)
 (ref04_Name_l1 base t0 (.int .i64 0) h8))
 (fun v7 h8 => pn false base v7 h8) := by kernel_rfl
theorem ref04_Name_E (t0 : V) (H : Heap) : E n_ref04_Name [t0] H = ref04_Name H.length t0 H := (EV_at Tryd.func18 (by kernel_rfl) (by kernel_rfl) (by kernel_rfl)).trans (by kernel_rfl)

def teller_Right_c : Code := bodyOf Tryd.f19
def teller_Right_ks : Ks := []
def teller_Right_e (base : Nat) : KC (Out × Heap) := xEnd Tryd.prog D false base 5 Tryd.f19.results.toList
def teller_Right_C (base : Nat) (c : Code) (k : KC (Out × Heap)) (t : Ts) (H : Heap) (d : Ds) : Option (Out × Heap) := xC Tryd.prog base false teller_Right_ks E 5 c k t H d
def teller_Right (base : Nat) (t0 : V) (H : Heap) : Option (Out × Heap) := teller_Right_C base teller_Right_c (teller_Right_e base) [(0, t0)] H []
theorem teller_Right_eq (base : Nat) (t0 : V) (H : Heap) : teller_Right base t0 H =
 beff (oVar H t0) fun v0 h1 =>
 bnd (oLoad true 6 h1 v0) fun v2 =>
 bcall (E n_teller_within [v2, (.int .i64 50)] h1) (fun v3 h4 =>
 rt false base v3 h4)
 (fun v3 h4 => pn false base v3 h4) := by kernel_rfl
theorem teller_Right_E (t0 : V) (H : Heap) : E n_teller_Right [t0] H = teller_Right H.length t0.nrm H := (EV_atN Tryd.func19 (by kernel_rfl) (by kernel_rfl) (by kernel_rfl)).trans (by kernel_rfl)

def law04_weight_c : Code := bodyOf Tryd.f20
def law04_weight_ks : Ks := [(3, [0, 3, 4])]
def law04_weight_e (base : Nat) : KC (Out × Heap) := xEnd Tryd.prog D false base 36 Tryd.f20.results.toList
def law04_weight_C (base : Nat) (c : Code) (k : KC (Out × Heap)) (t : Ts) (H : Heap) (d : Ds) : Option (Out × Heap) := xC Tryd.prog base false law04_weight_ks E 36 c k t H d
def law04_weight_l1 (base : Nat) (t0 t3 t4 : V) (H : Heap) : Option (Out × Heap) :=
iterL (fun t H d again => law04_weight_C base (cAt [1, 1, 0, 1, 0, 0] law04_weight_c) (loopK law04_weight_ks (cAt [1, 1, 0, 1, 0, 0] law04_weight_c) again ((blockK 0 ((seqK (fun _ t => law04_weight_C base (cAt [1, 1, 1] law04_weight_c) (law04_weight_e base) (trimA law04_weight_ks (cAt [1, 1, 1] law04_weight_c) t)) (law04_weight_e base)))))) t H d) [(0, t0), (3, t3), (4, t4)] H []
theorem law04_weight_l1_eq (base : Nat) (t0 t3 t4 : V) (H : Heap) : law04_weight_l1 base t0 t3 t4 H =
 bnd (oLenSl t0) fun v1 =>
 bnd (oBin .lss 6 t4 v1) fun v2 =>
 cnd v2
 (bnd (oIndexPtr 6 t0 t4) fun v3 =>
 bnd (oFieldPtr v3 1) fun v4 =>
 bnd (oLoad false 1 H v4) fun v5 =>
 bnd (oLenStr v5) fun v6 =>
 bnd (oBin .add 6 t3 v6) fun v7 =>
 bnd (oIndexPtr 6 t0 t4) fun v8 =>
 bnd (oFieldPtr v8 2) fun v9 =>
 bnd (oLoad false 1 H v9) fun v10 =>
 bnd (oLenSl v10) fun v11 =>
 bnd (oBin .add 6 v7 v11) fun v12 =>
 bnd (oIndexPtr 6 t0 t4) fun v13 =>
 bnd (oFieldPtr v13 5) fun v14 =>
 bnd (oLoad false 1 H v14) fun v15 =>
 bcall (E n_law04_weight [v15] H) (fun v16 h17 =>
 sch (sam (oLoad false 1 h17 v9) v10) (
 sch (sam (oLoad false 1 h17 v4) v5) (
 bnd (oBin .add 6 v12 v16) fun v18 =>
 bnd (oBin .add 6 t4 (.int .i64 1)) fun v19 =>
 law04_weight_l1 base t0 v18 v19 h17)))
 (fun v16 h17 => pn false base v16 h17))
 (rt false base t3 H) := (loop_eq (cAt [1, 1, 0, 1, 0, 0] law04_weight_c) ((blockK 0 ((seqK (fun _ t => law04_weight_C base (cAt [1, 1, 1] law04_weight_c) (law04_weight_e base) (trimA law04_weight_ks (cAt [1, 1, 1] law04_weight_c) t)) (law04_weight_e base))))) _ H []).trans (by kernel_rfl)
def law04_weight (base : Nat) (t0 : V) (H : Heap) : Option (Out × Heap) := law04_weight_C base law04_weight_c (law04_weight_e base) [(0, t0)] H []
theorem law04_weight_eq (base : Nat) (t0 : V) (H : Heap) : law04_weight base t0 H =
 bnd (oLenSl t0) fun v0 =>
 law04_weight_l1 base t0 v0 (.int .i64 0) H := by kernel_rfl
theorem law04_weight_E (t0 : V) (H : Heap) : E n_law04_weight [t0] H = law04_weight H.length t0 H := (EV_at Tryd.func20 (by kernel_rfl) (by kernel_rfl) (by kernel_rfl)).trans (by kernel_rfl)
end
end Go.Proofs.YthcjjicplodhjaaDoor
end

