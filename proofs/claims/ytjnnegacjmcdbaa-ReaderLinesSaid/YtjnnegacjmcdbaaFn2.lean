/- Fn2: a part of the proof that each law of this seat answers true at every input. No condition. -/
import Derived.Test.YtjnnegacjmcdbaaHint
import Derived.KernelRfl
set_option linter.unusedVariables false
set_option linter.unusedSimpArgs false
set_option maxRecDepth 20000
section
/- Printed: what functions do. -/
namespace Go.Proofs.Ytjnnegacjmcdbaa
open Go Go.Ev
set_option linter.unusedVariables false
noncomputable section

def ref03_Same_c : Code := bodyOf Try.f20
def ref03_Same_ks : Ks := [(4, [2, 3, 5]), (9, [2, 3, 6])]
def ref03_Same_e (base : Nat) : KC (Out × Heap) := xEnd Try.prog D false base 88 Try.f20.results.toList
def ref03_Same_C (base : Nat) (c : Code) (k : KC (Out × Heap)) (t : Ts) (H : Heap) (d : Ds) : Option (Out × Heap) := xC Try.prog base false ref03_Same_ks E 88 c k t H d
def ref03_Same_l1 (base : Nat) (t2 t3 t5 : V) (H : Heap) : Option (Out × Heap) :=
iterL (fun t H d again => ref03_Same_C base (cAt [1, 1, 0, 1, 0, 0] ref03_Same_c) (loopK ref03_Same_ks (cAt [1, 1, 0, 1, 0, 0] ref03_Same_c) again ((blockK 0 ((seqK (fun _ t => ref03_Same_C base (cAt [1, 1, 1] ref03_Same_c) (ref03_Same_e base) (trimA ref03_Same_ks (cAt [1, 1, 1] ref03_Same_c) t)) (ref03_Same_e base)))))) t H d) [(2, t2), (3, t3), (5, t5)] H []
def ref03_Same_l2 (base : Nat) (t2 t3 t6 : V) (H : Heap) : Option (Out × Heap) :=
iterL (fun t H d again => ref03_Same_C base (cAt [1, 1, 1, 0, 1, 0, 0] ref03_Same_c) (loopK ref03_Same_ks (cAt [1, 1, 1, 0, 1, 0, 0] ref03_Same_c) again ((blockK 2 ((seqK (fun _ t => ref03_Same_C base (cAt [1, 1, 1, 1] ref03_Same_c) (ref03_Same_e base) (trimA ref03_Same_ks (cAt [1, 1, 1, 1] ref03_Same_c) t)) (ref03_Same_e base)))))) t H d) [(2, t2), (3, t3), (6, t6)] H []
theorem ref03_Same_l2_eq (base : Nat) (t2 t3 t6 : V) (H : Heap) : ref03_Same_l2 base t2 t3 t6 H =
 bnd (oFieldPtr t2 5) fun v57 =>
 bnd (oLoad false 1 H v57) fun v58 =>
 bnd (oLenSl v58) fun v59 =>
 bnd (oBin .lss 6 t6 v59) fun v60 =>
 cnd v60
 (bnd (oFieldPtr t2 5) fun v61 =>
 bnd (oLoad false 1 H v61) fun v62 =>
 bnd (oIndexPtr 6 v62 t6) fun v63 =>
 bnd (oLoad true 6 H v63) fun v64 =>
 bnd (oFieldPtr t3 5) fun v65 =>
 bnd (oLoad false 1 H v65) fun v66 =>
 bnd (oIndexPtr 6 v66 t6) fun v67 =>
 bnd (oLoad true 6 H v67) fun v68 =>
 bcall (E n_ref03_Same [v64, v68] H) (fun v69 h70 =>
 bnd (oUn .not v69) fun v71 =>
 cnd v71
 (rt false base (.bool false) h70)
 (bnd (oBin .add 6 t6 (.int .i64 1)) fun v72 =>
 ref03_Same_l2 base t2 t3 v72 h70))
 (fun v69 h70 => pn false base v69 h70))
 (rt false base (.bool true) H) := (loop_eq (cAt [1, 1, 1, 0, 1, 0, 0] ref03_Same_c) ((blockK 2 ((seqK (fun _ t => ref03_Same_C base (cAt [1, 1, 1, 1] ref03_Same_c) (ref03_Same_e base) (trimA ref03_Same_ks (cAt [1, 1, 1, 1] ref03_Same_c) t)) (ref03_Same_e base))))) _ H []).trans (by kernel_rfl)
theorem ref03_Same_l1_eq (base : Nat) (t2 t3 t5 : V) (H : Heap) : ref03_Same_l1 base t2 t3 t5 H =
 bnd (oFieldPtr t2 2) fun v43 =>
 bnd (oLoad false 1 H v43) fun v44 =>
 bnd (oLenSl v44) fun v45 =>
 bnd (oBin .lss 6 t5 v45) fun v46 =>
 cnd v46
 (bnd (oFieldPtr t2 2) fun v47 =>
 bnd (oLoad false 1 H v47) fun v48 =>
 bnd (oIndexPtr 1 v48 t5) fun v49 =>
 bnd (oLoad false 1 H v49) fun v50 =>
 bnd (oFieldPtr t3 2) fun v51 =>
 bnd (oLoad false 1 H v51) fun v52 =>
 bnd (oIndexPtr 1 v52 t5) fun v53 =>
 bnd (oLoad false 1 H v53) fun v54 =>
 bnd (oBin .neq 6 v50 v54) fun v55 =>
 cnd v55
 (rt false base (.bool false) H)
 (bnd (oBin .add 6 t5 (.int .i64 1)) fun v56 =>
 ref03_Same_l1 base t2 t3 v56 H))
 (ref03_Same_l2 base t2 t3 (.int .i64 0) H) := (loop_eq (cAt [1, 1, 0, 1, 0, 0] ref03_Same_c) ((blockK 0 ((seqK (fun _ t => ref03_Same_C base (cAt [1, 1, 1] ref03_Same_c) (ref03_Same_e base) (trimA ref03_Same_ks (cAt [1, 1, 1] ref03_Same_c) t)) (ref03_Same_e base))))) _ H []).trans (by kernel_rfl)
def ref03_Same (base : Nat) (t0 t1 : V) (H : Heap) : Option (Out × Heap) := ref03_Same_C base ref03_Same_c (ref03_Same_e base) [(0, t0), (1, t1)] H []
theorem ref03_Same_eq (base : Nat) (t0 t1 : V) (H : Heap) : ref03_Same base t0 t1 H =
 beff (oVar H t0) fun v0 h1 =>
 beff (oVar h1 t1) fun v2 h3 =>
 bnd (oFieldPtr v0 0) fun v4 =>
 bnd (oLoad false 1 h3 v4) fun v5 =>
 bnd (oFieldPtr v2 0) fun v6 =>
 bnd (oLoad false 1 h3 v6) fun v7 =>
 bnd (oBin .neq 6 v5 v7) fun v8 =>
 bnd (gua v8 false (oFieldPtr v0 1) (some (.tup []))) fun v9 =>
 bnd (gua v8 false (oLoad false 1 h3 v9) (some (.tup []))) fun v10 =>
 bnd (gua v8 false (oFieldPtr v2 1) (some (.tup []))) fun v11 =>
 bnd (gua v8 false (oLoad false 1 h3 v11) (some (.tup []))) fun v12 =>
 bnd (gua v8 false (oBin .neq 6 v10 v12) (some (.tup []))) fun v13 =>
 bnd (oPick v8 (.bool true) v13) fun v14 =>
 bnd (gua v14 false (oFieldPtr v0 3) (some (.tup []))) fun v15 =>
 bnd (gua v14 false (oLoad false 1 h3 v15) (some (.tup []))) fun v16 =>
 bnd (gua v14 false (oFieldPtr v2 3) (some (.tup []))) fun v17 =>
 bnd (gua v14 false (oLoad false 1 h3 v17) (some (.tup []))) fun v18 =>
 bnd (gua v14 false (oBin .neq 6 v16 v18) (some (.tup []))) fun v19 =>
 bnd (oPick v14 (.bool true) v19) fun v20 =>
 bnd (gua v20 false (oFieldPtr v0 4) (some (.tup []))) fun v21 =>
 bnd (gua v20 false (oLoad false 1 h3 v21) (some (.tup []))) fun v22 =>
 bnd (gua v20 false (oFieldPtr v2 4) (some (.tup []))) fun v23 =>
 bnd (gua v20 false (oLoad false 1 h3 v23) (some (.tup []))) fun v24 =>
 bnd (gua v20 false (oBin .neq 6 v22 v24) (some (.tup []))) fun v25 =>
 bnd (oPick v20 (.bool true) v25) fun v26 =>
 bnd (gua v26 false (oFieldPtr v0 2) (some (.tup []))) fun v27 =>
 bnd (gua v26 false (oLoad false 1 h3 v27) (some (.tup []))) fun v28 =>
 bnd (gua v26 false (oLenSl v28) (some (.tup []))) fun v29 =>
 bnd (gua v26 false (oFieldPtr v2 2) (some (.tup []))) fun v30 =>
 bnd (gua v26 false (oLoad false 1 h3 v30) (some (.tup []))) fun v31 =>
 bnd (gua v26 false (oLenSl v31) (some (.tup []))) fun v32 =>
 bnd (gua v26 false (oBin .neq 6 v29 v32) (some (.tup []))) fun v33 =>
 bnd (oPick v26 (.bool true) v33) fun v34 =>
 bnd (gua v34 false (oFieldPtr v0 5) (some (.tup []))) fun v35 =>
 bnd (gua v34 false (oLoad false 1 h3 v35) (some (.tup []))) fun v36 =>
 bnd (gua v34 false (oLenSl v36) (some (.tup []))) fun v37 =>
 bnd (gua v34 false (oFieldPtr v2 5) (some (.tup []))) fun v38 =>
 bnd (gua v34 false (oLoad false 1 h3 v38) (some (.tup []))) fun v39 =>
 bnd (gua v34 false (oLenSl v39) (some (.tup []))) fun v40 =>
 bnd (gua v34 false (oBin .neq 6 v37 v40) (some (.tup []))) fun v41 =>
 bnd (oPick v34 (.bool true) v41) fun v42 =>
 cnd v42
 (rt false base (.bool false) h3)
 (ref03_Same_l1 base v0 v2 (.int .i64 0) h3) := by kernel_rfl
theorem ref03_Same_E (t0 t1 : V) (H : Heap) : E n_ref03_Same [t0, t1] H = ref03_Same H.length t0 t1 H := (EV_at Try.func20 (by kernel_rfl) (by kernel_rfl) (by kernel_rfl)).trans (by kernel_rfl)

def ref03_blank_c : Code := bodyOf Try.f21
def ref03_blank_ks : Ks := []
def ref03_blank_e (base : Nat) : KC (Out × Heap) := xEnd Try.prog D false base 9 Try.f21.results.toList
def ref03_blank_C (base : Nat) (c : Code) (k : KC (Out × Heap)) (t : Ts) (H : Heap) (d : Ds) : Option (Out × Heap) := xC Try.prog base false ref03_blank_ks E 9 c k t H d
def ref03_blank (base : Nat) (t0 : V) (H : Heap) : Option (Out × Heap) := ref03_blank_C base ref03_blank_c (ref03_blank_e base) [(0, t0)] H []
theorem ref03_blank_eq (base : Nat) (t0 : V) (H : Heap) : ref03_blank base t0 H =
 bnd (oBin .eql 6 t0 (.int .i64 32)) fun v0 =>
 bnd (gua v0 false (oMove t0) (some (.tup []))) fun v1 =>
 bnd (gua v0 false (oBin .eql 6 v1 (.int .i64 9)) (some (.tup []))) fun v2 =>
 bnd (oPick v0 (.bool true) v2) fun v3 =>
 rt false base v3 H := by kernel_rfl
theorem ref03_blank_E (t0 : V) (H : Heap) : E n_ref03_blank [t0] H = ref03_blank H.length t0 H := (EV_at Try.func21 (by kernel_rfl) (by kernel_rfl) (by kernel_rfl)).trans (by kernel_rfl)

def ref03_reader_at_c : Code := bodyOf Try.f22
def ref03_reader_at_ks : Ks := []
def ref03_reader_at_e (base : Nat) : KC (Out × Heap) := xEnd Try.prog D false base 29 Try.f22.results.toList
def ref03_reader_at_C (base : Nat) (c : Code) (k : KC (Out × Heap)) (t : Ts) (H : Heap) (d : Ds) : Option (Out × Heap) := xC Try.prog base false ref03_reader_at_ks E 29 c k t H d
def ref03_reader_at (base : Nat) (t0 t1 : V) (H : Heap) : Option (Out × Heap) := ref03_reader_at_C base ref03_reader_at_c (ref03_reader_at_e base) [(0, t0), (1, t1)] H []
theorem ref03_reader_at_eq (base : Nat) (t0 t1 : V) (H : Heap) : ref03_reader_at base t0 t1 H =
 bnd (oNil t0) fun v0 =>
 bnd (oFieldPtr v0 1) fun v1 =>
 bnd (oLoad false 1 H v1) fun v2 =>
 bnd (oBin .add 6 v2 t1) fun v3 =>
 bnd (oNil t0) fun v4 =>
 bnd (oFieldPtr v4 0) fun v5 =>
 bnd (oLoad false 1 H v5) fun v6 =>
 bnd (oLenStr v6) fun v7 =>
 bnd (oBin .geq 6 v3 v7) fun v8 =>
 cnd v8
 (rt false base (.int .i64 (-1)) H)
 (bnd (oNil t0) fun v9 =>
 bnd (oFieldPtr v9 0) fun v10 =>
 bnd (oLoad false 1 H v10) fun v11 =>
 bnd (oNil t0) fun v12 =>
 bnd (oFieldPtr v12 1) fun v13 =>
 bnd (oLoad false 1 H v13) fun v14 =>
 bnd (oBin .add 6 v14 t1) fun v15 =>
 bnd (oIndexStr v11 v15) fun v16 =>
 bnd (oIntTo .i64 v16) fun v17 =>
 rt false base v17 H) := by kernel_rfl
theorem ref03_reader_at_E (t0 t1 : V) (H : Heap) : E n_ref03_reader_at [t0, t1] H = ref03_reader_at H.length t0 t1 H := (EV_at Try.func22 (by kernel_rfl) (by kernel_rfl) (by kernel_rfl)).trans (by kernel_rfl)

def ref03_reader_ends_c : Code := bodyOf Try.f23
def ref03_reader_ends_ks : Ks := [(4, [0, 3]), (6, [0, 3])]
def ref03_reader_ends_e (base : Nat) : KC (Out × Heap) := xEnd Try.prog D false base 52 Try.f23.results.toList
def ref03_reader_ends_C (base : Nat) (c : Code) (k : KC (Out × Heap)) (t : Ts) (H : Heap) (d : Ds) : Option (Out × Heap) := xC Try.prog base false ref03_reader_ends_ks E 52 c k t H d
def ref03_reader_ends_l1 (base : Nat) (t0 t3 : V) (H : Heap) : Option (Out × Heap) :=
iterL (fun t H d again => ref03_reader_ends_C base (cAt [1, 1, 0, 1, 0, 1, 0, 0] ref03_reader_ends_c) (loopK ref03_reader_ends_ks (cAt [1, 1, 0, 1, 0, 1, 0, 0] ref03_reader_ends_c) again ((blockK 0 ((seqK (fun _ t => ref03_reader_ends_C base (cAt [1, 1, 1] ref03_reader_ends_c) (ref03_reader_ends_e base) (trimA ref03_reader_ends_ks (cAt [1, 1, 1] ref03_reader_ends_c) t)) (ref03_reader_ends_e base)))))) t H d) [(0, t0), (3, t3)] H []
def ref03_reader_ends_j2 (base : Nat) (t0 t3 : V) (H : Heap) : Option (Out × Heap) :=
ref03_reader_ends_C base (cAt [1, 1, 1] ref03_reader_ends_c) (ref03_reader_ends_e base) [(0, t0), (3, t3)] H []
theorem ref03_reader_ends_j2_eq (base : Nat) (t0 t3 : V) (H : Heap) : ref03_reader_ends_j2 base t0 t3 H =
 bcall (E n_ref03_reader_at [t0, t3] H) (fun v21 h22 =>
 bnd (oBin .eql 6 v21 (.int .i64 10)) fun v23 =>
 cnd v23
 (bnd (oBin .add 6 t3 (.int .i64 1)) fun v24 =>
 rt false base v24 h22)
 (bcall (E n_ref03_reader_at [t0, t3] h22) (fun v25 h26 =>
 bnd (oBin .eql 6 v25 (.int .i64 13)) fun v27 =>
 bnd (gua v27 true (oMove t0) (some (.tup []))) fun v28 =>
 bnd (gua v27 true (oMove t3) (some (.tup []))) fun v29 =>
 bnd (gua v27 true (oBin .add 6 v29 (.int .i64 1)) (some (.tup []))) fun v30 =>
 bcall (gua v27 true (E n_ref03_reader_at [v28, v30] h26) (some (.ret (.tup []), h26))) (fun v31 h32 =>
 bnd (gua v27 true (oBin .eql 6 v31 (.int .i64 10)) (some (.tup []))) fun v33 =>
 bnd (oPick v27 v33 (.bool false)) fun v34 =>
 cnd v34
 (bnd (oBin .add 6 t3 (.int .i64 2)) fun v35 =>
 rt false base v35 h32)
 (bcall (E n_ref03_reader_at [t0, t3] h32) (fun v36 h37 =>
 bnd (oBin .lss 6 v36 (.int .i64 0)) fun v38 =>
 cnd v38
 (rt false base t3 h37)
 (rt false base (.int .i64 (-1)) h37))
 (fun v36 h37 => pn false base v36 h37)))
 (fun v31 h32 => pn false base v31 h32))
 (fun v25 h26 => pn false base v25 h26)))
 (fun v21 h22 => pn false base v21 h22) := by kernel_rfl
theorem ref03_reader_ends_l1_eq (base : Nat) (t0 t3 : V) (H : Heap) : ref03_reader_ends_l1 base t0 t3 H =
 bcall (E n_ref03_reader_at [t0, t3] H) (fun v3 h4 =>
 bcall (E n_ref03_blank [v3] h4) (fun v5 h6 =>
 bnd (gua v5 false (oMove t0) (some (.tup []))) fun v7 =>
 bnd (gua v5 false (oMove t3) (some (.tup []))) fun v8 =>
 bcall (gua v5 false (E n_ref03_reader_at [v7, v8] h6) (some (.ret (.tup []), h6))) (fun v9 h10 =>
 bnd (gua v5 false (oBin .gtr 6 v9 (.int .i64 32)) (some (.tup []))) fun v11 =>
 bnd (gua v5 false (oMove v11) (some (.tup []))) fun v12 =>
 bnd (gua v12 true (oMove t0) (some (.tup []))) fun v13 =>
 bnd (gua v12 true (oMove t3) (some (.tup []))) fun v14 =>
 bcall (gua v12 true (E n_ref03_reader_at [v13, v14] h10) (some (.ret (.tup []), h10))) (fun v15 h16 =>
 bnd (gua v12 true (oBin .lss 6 v15 (.int .i64 127)) (some (.tup []))) fun v17 =>
 bnd (gua v5 false (oPick v12 v17 (.bool false)) (some (.tup []))) fun v18 =>
 bnd (oPick v5 (.bool true) v18) fun v19 =>
 cnd v19
 (bnd (oBin .add 6 t3 (.int .i64 1)) fun v20 =>
 ref03_reader_ends_l1 base t0 v20 h16)
 (ref03_reader_ends_j2 base t0 t3 h16))
 (fun v15 h16 => pn false base v15 h16))
 (fun v9 h10 => pn false base v9 h10))
 (fun v5 h6 => pn false base v5 h6))
 (fun v3 h4 => pn false base v3 h4) := (loop_eq (cAt [1, 1, 0, 1, 0, 1, 0, 0] ref03_reader_ends_c) ((blockK 0 ((seqK (fun _ t => ref03_reader_ends_C base (cAt [1, 1, 1] ref03_reader_ends_c) (ref03_reader_ends_e base) (trimA ref03_reader_ends_ks (cAt [1, 1, 1] ref03_reader_ends_c) t)) (ref03_reader_ends_e base))))) _ H []).trans (by kernel_rfl)
def ref03_reader_ends (base : Nat) (t0 : V) (H : Heap) : Option (Out × Heap) := ref03_reader_ends_C base ref03_reader_ends_c (ref03_reader_ends_e base) [(0, t0)] H []
theorem ref03_reader_ends_eq (base : Nat) (t0 : V) (H : Heap) : ref03_reader_ends base t0 H =
 bcall (E n_ref03_reader_at [t0, (.int .i64 0)] H) (fun v0 h1 =>
 bnd (oBin .eql 6 v0 (.int .i64 59)) fun v2 =>
 cnd v2
 (ref03_reader_ends_l1 base t0 (.int .i64 1) h1)
 (ref03_reader_ends_j2 base t0 (.int .i64 0) h1))
 (fun v0 h1 => pn false base v0 h1) := by kernel_rfl
theorem ref03_reader_ends_E (t0 : V) (H : Heap) : E n_ref03_reader_ends [t0] H = ref03_reader_ends H.length t0 H := (EV_at Try.func23 (by kernel_rfl) (by kernel_rfl) (by kernel_rfl)).trans (by kernel_rfl)

def ref03_reader_rule_c : Code := bodyOf Try.f24
def ref03_reader_rule_ks : Ks := [(5, [0, 2, 3]), (9, [0, 2, 3]), (15, [0, 2, 3, 4])]
def ref03_reader_rule_e (base : Nat) : KC (Out × Heap) := xEnd Try.prog D false base 59 Try.f24.results.toList
def ref03_reader_rule_C (base : Nat) (c : Code) (k : KC (Out × Heap)) (t : Ts) (H : Heap) (d : Ds) : Option (Out × Heap) := xC Try.prog base false ref03_reader_rule_ks E 59 c k t H d
def ref03_reader_rule_j3 (base : Nat) (t0 t2 t3 t4 : V) (H : Heap) : Option (Out × Heap) :=
ref03_reader_rule_C base (cAt [1, 1, 1, 1, 1, 1, 1, 1, 1, 1, 1, 1] ref03_reader_rule_c) (ref03_reader_rule_e base) [(0, t0), (2, t2), (3, t3), (4, t4)] H []
theorem ref03_reader_rule_j3_eq (base : Nat) (t0 t2 t3 t4 : V) (H : Heap) : ref03_reader_rule_j3 base t0 t2 t3 t4 H =
 bnd (oNil t0) fun v54 =>
 bnd (oFieldPtr v54 1) fun v55 =>
 bnd (oLoad false 1 H v55) fun v56 =>
 bnd (oMax [t4, (.int .i64 0)]) fun v57 =>
 bnd (oBin .add 6 v56 v57) fun v58 =>
 bnd (oNil t0) fun v59 =>
 bnd (oFieldPtr v59 1) fun v60 =>
 beff (oStore base 1 H v60 v58) fun v61 h62 =>
 bnd (oLoad true 8 h62 t3) fun v63 =>
 beff (oStore base 8 h62 t2 v63) fun v64 h65 =>
 bnd (oLoad true 8 h65 t2) fun v66 =>
 rt false base v66 h65 := by kernel_rfl
def ref03_reader_rule_j2 (base : Nat) (t0 t2 t3 : V) (H : Heap) : Option (Out × Heap) :=
ref03_reader_rule_C base (cAt [1, 1, 1, 1, 1, 1, 1] ref03_reader_rule_c) (ref03_reader_rule_e base) [(0, t0), (2, t2), (3, t3)] H []
theorem ref03_reader_rule_j2_eq (base : Nat) (t0 t2 t3 : V) (H : Heap) : ref03_reader_rule_j2 base t0 t2 t3 H =
 bcall (E n_ref03_reader_skip [t0] H) (fun v40 h41 =>
 bcall (E n_ref03_reader_alt [t0, (.int .i64 0)] h41) (fun v42 h43 =>
 bnd (oFieldPtr t3 2) fun v44 =>
 beff (oStore base 6 h43 v44 v42) fun v45 h46 =>
 bcall (E n_ref03_reader_skip [t0] h46) (fun v47 h48 =>
 bcall (E n_ref03_reader_ends [t0] h48) (fun v49 h50 =>
 bnd (oBin .lss 6 v49 (.int .i64 0)) fun v51 =>
 cnd v51
 (bcall (E n_ref03_reader_fail [t0, (.int .i64 20)] h50) (fun v52 h53 =>
 ref03_reader_rule_j3 base t0 t2 t3 v49 h53)
 (fun v52 h53 => pn false base v52 h53))
 (ref03_reader_rule_j3 base t0 t2 t3 v49 h50))
 (fun v49 h50 => pn false base v49 h50))
 (fun v47 h48 => pn false base v47 h48))
 (fun v42 h43 => pn false base v42 h43))
 (fun v40 h41 => pn false base v40 h41) := by kernel_rfl
def ref03_reader_rule_j1 (base : Nat) (t0 t2 t3 : V) (H : Heap) : Option (Out × Heap) :=
ref03_reader_rule_C base (cAt [1, 1, 1, 1] ref03_reader_rule_c) (ref03_reader_rule_e base) [(0, t0), (2, t2), (3, t3)] H []
theorem ref03_reader_rule_j1_eq (base : Nat) (t0 t2 t3 : V) (H : Heap) : ref03_reader_rule_j1 base t0 t2 t3 H =
 bnd (oNil t0) fun v16 =>
 bnd (oFieldPtr v16 1) fun v17 =>
 bnd (oLoad false 1 H v17) fun v18 =>
 bnd (oBin .add 6 v18 (.int .i64 1)) fun v19 =>
 bnd (oNil t0) fun v20 =>
 bnd (oFieldPtr v20 1) fun v21 =>
 beff (oStore base 1 H v21 v19) fun v22 h23 =>
 bcall (E n_ref03_reader_at [t0, (.int .i64 0)] h23) (fun v24 h25 =>
 bnd (oBin .eql 6 v24 (.int .i64 47)) fun v26 =>
 bnd (oFieldPtr t3 1) fun v27 =>
 beff (oStore base 1 h25 v27 v26) fun v28 h29 =>
 bnd (oFieldPtr t3 1) fun v30 =>
 bnd (oLoad false 1 h29 v30) fun v31 =>
 cnd v31
 (bnd (oNil t0) fun v32 =>
 bnd (oFieldPtr v32 1) fun v33 =>
 bnd (oLoad false 1 h29 v33) fun v34 =>
 bnd (oBin .add 6 v34 (.int .i64 1)) fun v35 =>
 bnd (oNil t0) fun v36 =>
 bnd (oFieldPtr v36 1) fun v37 =>
 beff (oStore base 1 h29 v37 v35) fun v38 h39 =>
 ref03_reader_rule_j2 base t0 t2 t3 h39)
 (ref03_reader_rule_j2 base t0 t2 t3 h29))
 (fun v24 h25 => pn false base v24 h25) := by kernel_rfl
def ref03_reader_rule (base : Nat) (t0 : V) (H : Heap) : Option (Out × Heap) := ref03_reader_rule_C base ref03_reader_rule_c (ref03_reader_rule_e base) [(0, t0)] H []
theorem ref03_reader_rule_eq (base : Nat) (t0 : V) (H : Heap) : ref03_reader_rule base t0 H =
 beff (oVar H (.agg [(.str []), (.bool false), (.int .i64 0), (.str []), .nils, (.int .i64 0), (.int .i64 0), .nils])) fun v0 h1 =>
 bcall (E n_ref03_reader_name [t0] h1) (fun v2 h3 =>
 bnd (oBuild [(.str []), (.bool false), (.int .i64 0), (.str []), .nils, (.int .i64 0), (.int .i64 0), .nils] [(0, 1), (1, 1), (2, 6)] [(0, v2)]) fun v4 =>
 beff (oVar h3 (.agg [(.str []), (.bool false), (.int .i64 0), (.str []), .nils, (.int .i64 0), (.int .i64 0), .nils])) fun v5 h6 =>
 beff (oStore base 8 h6 v5 v4) fun v7 h8 =>
 bcall (E n_ref03_reader_skip [t0] h8) (fun v9 h10 =>
 bcall (E n_ref03_reader_at [t0, (.int .i64 0)] h10) (fun v11 h12 =>
 bnd (oBin .neq 6 v11 (.int .i64 61)) fun v13 =>
 cnd v13
 (bcall (E n_ref03_reader_fail [t0, (.int .i64 20)] h12) (fun v14 h15 =>
 ref03_reader_rule_j1 base t0 v0 v5 h15)
 (fun v14 h15 => pn false base v14 h15))
 (ref03_reader_rule_j1 base t0 v0 v5 h12))
 (fun v11 h12 => pn false base v11 h12))
 (fun v9 h10 => pn false base v9 h10))
 (fun v2 h3 => pn false base v2 h3) := by kernel_rfl
theorem ref03_reader_rule_E (t0 : V) (H : Heap) : E n_ref03_reader_rule [t0] H = ref03_reader_rule H.length t0 H := (EV_at Try.func24 (by kernel_rfl) (by kernel_rfl) (by kernel_rfl)).trans (by kernel_rfl)

def ref03_reader_fail_c : Code := bodyOf Try.f25
def ref03_reader_fail_ks : Ks := []
def ref03_reader_fail_e (base : Nat) : KC (Out × Heap) := xEnd Try.prog D false base 13 Try.f25.results.toList
def ref03_reader_fail_C (base : Nat) (c : Code) (k : KC (Out × Heap)) (t : Ts) (H : Heap) (d : Ds) : Option (Out × Heap) := xC Try.prog base false ref03_reader_fail_ks E 13 c k t H d
def ref03_reader_fail (base : Nat) (t0 t1 : V) (H : Heap) : Option (Out × Heap) := ref03_reader_fail_C base ref03_reader_fail_c (ref03_reader_fail_e base) [(0, t0), (1, t1)] H []
theorem ref03_reader_fail_eq (base : Nat) (t0 t1 : V) (H : Heap) : ref03_reader_fail base t0 t1 H =
 bnd (oNil t0) fun v0 =>
 bnd (oFieldPtr v0 2) fun v1 =>
 bnd (oLoad false 1 H v1) fun v2 =>
 bnd (oBin .eql 6 v2 (.int .i64 0)) fun v3 =>
 cnd v3
 (bnd (oNil t0) fun v4 =>
 bnd (oFieldPtr v4 2) fun v5 =>
 beff (oStore base 1 H v5 t1) fun v6 h7 =>
 rt false base (.tup []) h7)
 (rt false base (.tup []) H) := by kernel_rfl
theorem ref03_reader_fail_E (t0 t1 : V) (H : Heap) : E n_ref03_reader_fail [t0, t1] H = ref03_reader_fail H.length t0 t1 H := (EV_at Try.func25 (by kernel_rfl) (by kernel_rfl) (by kernel_rfl)).trans (by kernel_rfl)

def reader_reader_cut_c : Code := bodyOf Try.f26
def reader_reader_cut_ks : Ks := []
def reader_reader_cut_e (base : Nat) : KC (Out × Heap) := xEnd Try.prog D false base 22 Try.f26.results.toList
def reader_reader_cut_C (base : Nat) (c : Code) (k : KC (Out × Heap)) (t : Ts) (H : Heap) (d : Ds) : Option (Out × Heap) := xC Try.prog base false reader_reader_cut_ks E 22 c k t H d
def reader_reader_cut (base : Nat) (t0 t1 : V) (H : Heap) : Option (Out × Heap) := reader_reader_cut_C base reader_reader_cut_c (reader_reader_cut_e base) [(0, t0), (1, t1)] H []
theorem reader_reader_cut_eq (base : Nat) (t0 t1 : V) (H : Heap) : reader_reader_cut base t0 t1 H =
 bnd (oNil t0) fun v0 =>
 bnd (oFieldPtr v0 0) fun v1 =>
 bnd (oLoad false 1 H v1) fun v2 =>
 bnd (oSliceStr v2 none (some t1) none) fun v3 =>
 bnd (oNil t0) fun v4 =>
 bnd (oFieldPtr v4 0) fun v5 =>
 bnd (oLoad false 1 H v5) fun v6 =>
 bnd (oSliceStr v6 (some t1) none none) fun v7 =>
 bnd (oNil t0) fun v8 =>
 bnd (oFieldPtr v8 0) fun v9 =>
 beff (oStore base 1 H v9 v7) fun v10 h11 =>
 rt false base v3 h11 := by kernel_rfl
theorem reader_reader_cut_E (t0 t1 : V) (H : Heap) : E n_reader_reader_cut [t0, t1] H = reader_reader_cut H.length t0 t1 H := (EV_at Try.func26 (by kernel_rfl) (by kernel_rfl) (by kernel_rfl)).trans (by kernel_rfl)

def reader_run_c : Code := bodyOf Try.f27
def reader_run_ks : Ks := [(2, [0, 1, 7, 8])]
def reader_run_e (base : Nat) : KC (Out × Heap) := xEnd Try.prog D false base 21 Try.f27.results.toList
def reader_run_C (base : Nat) (c : Code) (k : KC (Out × Heap)) (t : Ts) (H : Heap) (d : Ds) : Option (Out × Heap) := xC Try.prog base false reader_run_ks E 21 c k t H d
def reader_run_l1 (base : Nat) (t0 t1 t7 t8 : V) (H : Heap) : Option (Out × Heap) :=
iterL (fun t H d again => reader_run_C base (cAt [1, 0, 1, 0, 0] reader_run_c) (loopK reader_run_ks (cAt [1, 0, 1, 0, 0] reader_run_c) again ((blockK 0 ((seqK (fun _ t => reader_run_C base (cAt [1, 1] reader_run_c) (reader_run_e base) (trimA reader_run_ks (cAt [1, 1] reader_run_c) t)) (reader_run_e base)))))) t H d) [(0, t0), (1, t1), (7, t7), (8, t8)] H []
theorem reader_run_l1_eq (base : Nat) (t0 t1 t7 t8 : V) (H : Heap) : reader_run_l1 base t0 t1 t7 t8 H =
 bnd (oBin .lss 6 t8 t7) fun v1 =>
 cnd v1
 (bnd (oIndexStr t0 t8) fun v2 =>
 bcall (oDyn E t1 [v2] H) (fun v3 h4 =>
 bnd (oUn .not v3) fun v5 =>
 cnd v5
 (rt false base t8 h4)
 (bnd (oBin .add 6 t8 (.int .i64 1)) fun v6 =>
 reader_run_l1 base t0 t1 t7 v6 h4))
 (fun v3 h4 => pn false base v3 h4))
 (bnd (oLenStr t0) fun v7 =>
 rt false base v7 H) := (loop_eq (cAt [1, 0, 1, 0, 0] reader_run_c) ((blockK 0 ((seqK (fun _ t => reader_run_C base (cAt [1, 1] reader_run_c) (reader_run_e base) (trimA reader_run_ks (cAt [1, 1] reader_run_c) t)) (reader_run_e base))))) _ H []).trans (by kernel_rfl)
def reader_run (base : Nat) (t0 t1 : V) (H : Heap) : Option (Out × Heap) := reader_run_C base reader_run_c (reader_run_e base) [(0, t0), (1, t1)] H []
theorem reader_run_eq (base : Nat) (t0 t1 : V) (H : Heap) : reader_run base t0 t1 H =
 bnd (oLenStr t0) fun v0 =>
 reader_run_l1 base t0 t1 v0 (.int .i64 0) H := by kernel_rfl
theorem reader_run_E (t0 t1 : V) (H : Heap) : E n_reader_run [t0, t1] H = reader_run H.length t0 t1 H := (EV_at Try.func27 (by kernel_rfl) (by kernel_rfl) (by kernel_rfl)).trans (by kernel_rfl)

def reader_isBlank_c : Code := bodyOf Try.f28
def reader_isBlank_ks : Ks := []
def reader_isBlank_e (base : Nat) : KC (Out × Heap) := xEnd Try.prog D false base 9 Try.f28.results.toList
def reader_isBlank_C (base : Nat) (c : Code) (k : KC (Out × Heap)) (t : Ts) (H : Heap) (d : Ds) : Option (Out × Heap) := xC Try.prog base false reader_isBlank_ks E 9 c k t H d
def reader_isBlank (base : Nat) (t0 : V) (H : Heap) : Option (Out × Heap) := reader_isBlank_C base reader_isBlank_c (reader_isBlank_e base) [(0, t0)] H []
theorem reader_isBlank_eq (base : Nat) (t0 : V) (H : Heap) : reader_isBlank base t0 H =
 bnd (oBin .eql 6 t0 (.int .u8 32)) fun v0 =>
 bnd (gua v0 false (oMove t0) (some (.tup []))) fun v1 =>
 bnd (gua v0 false (oBin .eql 6 v1 (.int .u8 9)) (some (.tup []))) fun v2 =>
 bnd (oPick v0 (.bool true) v2) fun v3 =>
 rt false base v3 H := by kernel_rfl
theorem reader_isBlank_E (t0 : V) (H : Heap) : E n_reader_isBlank [t0] H = reader_isBlank H.length t0 H := (EV_at Try.func28 (by kernel_rfl) (by kernel_rfl) (by kernel_rfl)).trans (by kernel_rfl)

def reader_reader_end_c : Code := bodyOf Try.f29
def reader_reader_end_ks : Ks := [(5, [0, 3])]
def reader_reader_end_e (base : Nat) : KC (Out × Heap) := xEnd Try.prog D false base 40 Try.f29.results.toList
def reader_reader_end_C (base : Nat) (c : Code) (k : KC (Out × Heap)) (t : Ts) (H : Heap) (d : Ds) : Option (Out × Heap) := xC Try.prog base false reader_reader_end_ks E 40 c k t H d
def reader_reader_end_j1 (base : Nat) (t0 t3 : V) (H : Heap) : Option (Out × Heap) :=
reader_reader_end_C base (cAt [1, 1, 1] reader_reader_end_c) (reader_reader_end_e base) [(0, t0), (3, t3)] H []
theorem reader_reader_end_j1_eq (base : Nat) (t0 t3 : V) (H : Heap) : reader_reader_end_j1 base t0 t3 H =
 bnd (oNil t0) fun v9 =>
 bnd (oFieldPtr v9 0) fun v10 =>
 bnd (oLoad false 1 H v10) fun v11 =>
 bnd (oLenStr v11) fun v12 =>
 bnd (oLenStr t3) fun v13 =>
 bnd (oBin .sub 6 v12 v13) fun v14 =>
 bnd (oBin .eql 6 t3 (.str [])) fun v15 =>
 cnd v15
 (rt false base v14 H)
 (bnd (oIndexStr t3 (.int .i64 0)) fun v16 =>
 bnd (oBin .eql 6 v16 (.int .u8 10)) fun v17 =>
 cnd v17
 (bnd (oBin .add 6 v14 (.int .i64 1)) fun v18 =>
 rt false base v18 H)
 (bcall (E n_strings_HasPrefix [t3, (.str [13, 10])] H) (fun v19 h20 =>
 cnd v19
 (bnd (oBin .add 6 v14 (.int .i64 2)) fun v21 =>
 rt false base v21 h20)
 (rt false base (.int .i64 (-1)) h20))
 (fun v19 h20 => pn false base v19 h20))) := by kernel_rfl
def reader_reader_end (base : Nat) (t0 : V) (H : Heap) : Option (Out × Heap) := reader_reader_end_C base reader_reader_end_c (reader_reader_end_e base) [(0, t0)] H []
theorem reader_reader_end_eq (base : Nat) (t0 : V) (H : Heap) : reader_reader_end base t0 H =
 bnd (oNil t0) fun v0 =>
 bnd (oFieldPtr v0 0) fun v1 =>
 bnd (oLoad false 1 H v1) fun v2 =>
 bcall (E n_reader_reader_is [t0, (.int .u8 59)] H) (fun v3 h4 =>
 cnd v3
 (bnd (oSliceStr v2 (some (.int .i64 1)) none none) fun v5 =>
 bcall (E n_reader_run [v5, (.fn n_reader_reader_end_1 [])] h4) (fun v6 h7 =>
 bnd (oSliceStr v5 (some v6) none none) fun v8 =>
 reader_reader_end_j1 base t0 v8 h7)
 (fun v6 h7 => pn false base v6 h7))
 (reader_reader_end_j1 base t0 v2 h4))
 (fun v3 h4 => pn false base v3 h4) := by kernel_rfl
theorem reader_reader_end_E (t0 : V) (H : Heap) : E n_reader_reader_end [t0] H = reader_reader_end H.length t0 H := (EV_at Try.func29 (by kernel_rfl) (by kernel_rfl) (by kernel_rfl)).trans (by kernel_rfl)

def reader_reader_rule_c : Code := bodyOf Try.f30
def reader_reader_rule_ks : Ks := []
def reader_reader_rule_e (base : Nat) : KC (Out × Heap) := xEnd Try.prog D false base 31 Try.f30.results.toList
def reader_reader_rule_C (base : Nat) (c : Code) (k : KC (Out × Heap)) (t : Ts) (H : Heap) (d : Ds) : Option (Out × Heap) := xC Try.prog base false reader_reader_rule_ks E 31 c k t H d
def reader_reader_rule (base : Nat) (t0 : V) (H : Heap) : Option (Out × Heap) := reader_reader_rule_C base reader_reader_rule_c (reader_reader_rule_e base) [(0, t0)] H []
theorem reader_reader_rule_eq (base : Nat) (t0 : V) (H : Heap) : reader_reader_rule base t0 H =
 beff (oVar H (.agg [(.str []), (.bool false), (.int .i64 0), (.str []), .nils, (.int .i64 0), (.int .i64 0), .nils])) fun v0 h1 =>
 bcall (E n_reader_reader_name [t0] h1) (fun v2 h3 =>
 bnd (oFieldPtr v0 0) fun v4 =>
 beff (oStore base 1 h3 v4 v2) fun v5 h6 =>
 bcall (E n_reader_reader_room [t0] h6) (fun v7 h8 =>
 bcall (E n_reader_reader_take [t0, (.int .u8 61)] h8) (fun v9 h10 =>
 bcall (E n_reader_want [v9, (.int .i64 20)] h10) (fun v11 h12 =>
 bcall (E n_reader_reader_take [t0, (.int .u8 47)] h12) (fun v13 h14 =>
 bnd (oFieldPtr v0 1) fun v15 =>
 beff (oStore base 1 h14 v15 v13) fun v16 h17 =>
 bcall (E n_reader_reader_room [t0] h17) (fun v18 h19 =>
 bcall (E n_reader_reader_ways [t0, (.int .i64 0)] h19) (fun v20 h21 =>
 bnd (oFieldPtr v0 2) fun v22 =>
 beff (oStore base 6 h21 v22 v20) fun v23 h24 =>
 bcall (E n_reader_reader_room [t0] h24) (fun v25 h26 =>
 bcall (E n_reader_reader_end [t0] h26) (fun v27 h28 =>
 bnd (oBin .geq 6 v27 (.int .i64 0)) fun v29 =>
 bcall (E n_reader_want [v29, (.int .i64 20)] h28) (fun v30 h31 =>
 bcall (E n_reader_reader_cut [t0, v27] h31) (fun v32 h33 =>
 bnd (oLoad true 8 h33 v0) fun v34 =>
 beff (oStore base 8 h33 v0 v34) fun v35 h36 =>
 bnd (oLoad true 8 h36 v0) fun v37 =>
 rt false base v37 h36)
 (fun v32 h33 => pn false base v32 h33))
 (fun v30 h31 => pn false base v30 h31))
 (fun v27 h28 => pn false base v27 h28))
 (fun v25 h26 => pn false base v25 h26))
 (fun v20 h21 => pn false base v20 h21))
 (fun v18 h19 => pn false base v18 h19))
 (fun v13 h14 => pn false base v13 h14))
 (fun v11 h12 => pn false base v11 h12))
 (fun v9 h10 => pn false base v9 h10))
 (fun v7 h8 => pn false base v7 h8))
 (fun v2 h3 => pn false base v2 h3) := by kernel_rfl
theorem reader_reader_rule_E (t0 : V) (H : Heap) : E n_reader_reader_rule [t0] H = reader_reader_rule H.length t0 H := (EV_at Try.func30 (by kernel_rfl) (by kernel_rfl) (by kernel_rfl)).trans (by kernel_rfl)

def reader_want_c : Code := bodyOf Try.f31
def reader_want_ks : Ks := []
def reader_want_e (base : Nat) : KC (Out × Heap) := xEnd Try.prog D false base 8 Try.f31.results.toList
def reader_want_C (base : Nat) (c : Code) (k : KC (Out × Heap)) (t : Ts) (H : Heap) (d : Ds) : Option (Out × Heap) := xC Try.prog base false reader_want_ks E 8 c k t H d
def reader_want (base : Nat) (t0 t1 : V) (H : Heap) : Option (Out × Heap) := reader_want_C base reader_want_c (reader_want_e base) [(0, t0), (1, t1)] H []
theorem reader_want_eq (base : Nat) (t0 t1 : V) (H : Heap) : reader_want base t0 t1 H =
 bnd (oUn .not t0) fun v0 =>
 cnd v0
 (bcall (E n_reader_fail [t1] H) (fun v1 h2 =>
 rt false base (.tup []) h2)
 (fun v1 h2 => pn false base v1 h2))
 (rt false base (.tup []) H) := by kernel_rfl
theorem reader_want_E (t0 t1 : V) (H : Heap) : E n_reader_want [t0, t1] H = reader_want H.length t0 t1 H := (EV_at Try.func31 (by kernel_rfl) (by kernel_rfl) (by kernel_rfl)).trans (by kernel_rfl)

def ref03_reader_name_c : Code := bodyOf Try.f32
def ref03_reader_name_ks : Ks := [(3, [0, 3, 4]), (9, [0, 3]), (11, [3])]
def ref03_reader_name_e (base : Nat) : KC (Out × Heap) := xEnd Try.prog D false base 47 Try.f32.results.toList
def ref03_reader_name_C (base : Nat) (c : Code) (k : KC (Out × Heap)) (t : Ts) (H : Heap) (d : Ds) : Option (Out × Heap) := xC Try.prog base false ref03_reader_name_ks E 47 c k t H d
def ref03_reader_name_l1 (base : Nat) (t0 t3 t4 : V) (H : Heap) : Option (Out × Heap) :=
iterL (fun t H d again => ref03_reader_name_C base (cAt [1, 1, 0, 1, 0, 0] ref03_reader_name_c) (loopK ref03_reader_name_ks (cAt [1, 1, 0, 1, 0, 0] ref03_reader_name_c) again ((blockK 0 ((seqK (fun _ t => ref03_reader_name_C base (cAt [1, 1, 1] ref03_reader_name_c) (ref03_reader_name_e base) (trimA ref03_reader_name_ks (cAt [1, 1, 1] ref03_reader_name_c) t)) (ref03_reader_name_e base)))))) t H d) [(0, t0), (3, t3), (4, t4)] H []
def ref03_reader_name_j3 (base : Nat) (t3 : V) (H : Heap) : Option (Out × Heap) :=
ref03_reader_name_C base (cAt [1, 1, 1, 1, 1] ref03_reader_name_c) (ref03_reader_name_e base) [(3, t3)] H []
theorem ref03_reader_name_j3_eq (base : Nat) (t3 : V) (H : Heap) : ref03_reader_name_j3 base t3 H =
 rt false base t3 H := by kernel_rfl
def ref03_reader_name_j2 (base : Nat) (t0 t3 : V) (H : Heap) : Option (Out × Heap) :=
ref03_reader_name_C base (cAt [1, 1, 1, 1] ref03_reader_name_c) (ref03_reader_name_e base) [(0, t0), (3, t3)] H []
theorem ref03_reader_name_j2_eq (base : Nat) (t0 t3 : V) (H : Heap) : ref03_reader_name_j2 base t0 t3 H =
 bnd (oLenStr t3) fun v35 =>
 bnd (oBin .gtr 6 v35 (.int .i64 40)) fun v36 =>
 cnd v36
 (bcall (E n_ref03_reader_fail [t0, (.int .i64 2)] H) (fun v37 h38 =>
 ref03_reader_name_j3 base t3 h38)
 (fun v37 h38 => pn false base v37 h38))
 (ref03_reader_name_j3 base t3 H) := by kernel_rfl
theorem ref03_reader_name_l1_eq (base : Nat) (t0 t3 t4 : V) (H : Heap) : ref03_reader_name_l1 base t0 t3 t4 H =
 bcall (E n_ref03_alpha [t4] H) (fun v2 h3 =>
 bnd (gua v2 false (oMove t3) (some (.tup []))) fun v4 =>
 bnd (gua v2 false (oBin .neq 6 v4 (.str [])) (some (.tup []))) fun v5 =>
 bnd (gua v2 false (oMove v5) (some (.tup []))) fun v6 =>
 bnd (gua v6 true (oMove t4) (some (.tup []))) fun v7 =>
 bcall (gua v6 true (E n_ref03_digit [v7] h3) (some (.ret (.tup []), h3))) (fun v8 h9 =>
 bnd (gua v6 true (oMove v8) (some (.tup []))) fun v10 =>
 bnd (gua v10 false (oMove t4) (some (.tup []))) fun v11 =>
 bnd (gua v10 false (oBin .eql 6 v11 (.int .i64 45)) (some (.tup []))) fun v12 =>
 bnd (gua v6 true (oPick v10 (.bool true) v12) (some (.tup []))) fun v13 =>
 bnd (gua v2 false (oPick v6 v13 (.bool false)) (some (.tup []))) fun v14 =>
 bnd (oPick v2 (.bool true) v14) fun v15 =>
 cnd v15
 (bnd (oIntTo .u8 t4) fun v16 =>
 bcall (E n_ref03_lower [v16] h9) (fun v17 h18 =>
 bnd (oLit 1 1 (.int .u8 0) [(0, v17)]) fun v19 =>
 bnd (oText h18 v19) fun v20 =>
 bnd (oBin .add 6 t3 v20) fun v21 =>
 bnd (oNil t0) fun v22 =>
 bnd (oFieldPtr v22 1) fun v23 =>
 bnd (oLoad false 1 h18 v23) fun v24 =>
 bnd (oBin .add 6 v24 (.int .i64 1)) fun v25 =>
 bnd (oNil t0) fun v26 =>
 bnd (oFieldPtr v26 1) fun v27 =>
 beff (oStore base 1 h18 v27 v25) fun v28 h29 =>
 bcall (E n_ref03_reader_at [t0, (.int .i64 0)] h29) (fun v30 h31 =>
 ref03_reader_name_l1 base t0 v21 v30 h31)
 (fun v30 h31 => pn false base v30 h31))
 (fun v17 h18 => pn false base v17 h18))
 (bnd (oBin .eql 6 t3 (.str [])) fun v32 =>
 cnd v32
 (bcall (E n_ref03_reader_fail [t0, (.int .i64 20)] h9) (fun v33 h34 =>
 ref03_reader_name_j2 base t0 t3 h34)
 (fun v33 h34 => pn false base v33 h34))
 (ref03_reader_name_j2 base t0 t3 h9)))
 (fun v8 h9 => pn false base v8 h9))
 (fun v2 h3 => pn false base v2 h3) := (loop_eq (cAt [1, 1, 0, 1, 0, 0] ref03_reader_name_c) ((blockK 0 ((seqK (fun _ t => ref03_reader_name_C base (cAt [1, 1, 1] ref03_reader_name_c) (ref03_reader_name_e base) (trimA ref03_reader_name_ks (cAt [1, 1, 1] ref03_reader_name_c) t)) (ref03_reader_name_e base))))) _ H []).trans (by kernel_rfl)
def ref03_reader_name (base : Nat) (t0 : V) (H : Heap) : Option (Out × Heap) := ref03_reader_name_C base ref03_reader_name_c (ref03_reader_name_e base) [(0, t0)] H []
theorem ref03_reader_name_eq (base : Nat) (t0 : V) (H : Heap) : ref03_reader_name base t0 H =
 bcall (E n_ref03_reader_at [t0, (.int .i64 0)] H) (fun v0 h1 =>
 ref03_reader_name_l1 base t0 (.str []) v0 h1)
 (fun v0 h1 => pn false base v0 h1) := by kernel_rfl
theorem ref03_reader_name_E (t0 : V) (H : Heap) : E n_ref03_reader_name [t0] H = ref03_reader_name H.length t0 H := (EV_at Try.func32 (by kernel_rfl) (by kernel_rfl) (by kernel_rfl)).trans (by kernel_rfl)

def ref03_reader_skip_c : Code := bodyOf Try.f33
def ref03_reader_skip_ks : Ks := [(2, [0, 3])]
def ref03_reader_skip_e (base : Nat) : KC (Out × Heap) := xEnd Try.prog D false base 51 Try.f33.results.toList
def ref03_reader_skip_C (base : Nat) (c : Code) (k : KC (Out × Heap)) (t : Ts) (H : Heap) (d : Ds) : Option (Out × Heap) := xC Try.prog base false ref03_reader_skip_ks E 51 c k t H d
def ref03_reader_skip_l1 (base : Nat) (t0 t3 : V) (H : Heap) : Option (Out × Heap) :=
iterL (fun t H d again => ref03_reader_skip_C base (cAt [1, 1, 0, 0, 0] ref03_reader_skip_c) (loopK ref03_reader_skip_ks (cAt [1, 1, 0, 0, 0] ref03_reader_skip_c) again ((blockK 0 ((seqK (fun _ t => ref03_reader_skip_C base (cAt [1, 1, 1] ref03_reader_skip_c) (ref03_reader_skip_e base) (trimA ref03_reader_skip_ks (cAt [1, 1, 1] ref03_reader_skip_c) t)) (ref03_reader_skip_e base)))))) t H d) [(0, t0), (3, t3)] H []
theorem ref03_reader_skip_l1_eq (base : Nat) (t0 t3 : V) (H : Heap) : ref03_reader_skip_l1 base t0 t3 H =
 bnd (oNil t0) fun v3 =>
 bnd (oFieldPtr v3 2) fun v4 =>
 bnd (oLoad false 1 H v4) fun v5 =>
 bnd (oBin .eql 6 v5 (.int .i64 0)) fun v6 =>
 cnd v6
 (bcall (E n_ref03_reader_ends [t0] H) (fun v7 h8 =>
 bcall (E n_ref03_reader_at [t0, (.int .i64 0)] h8) (fun v9 h10 =>
 bcall (E n_ref03_blank [v9] h10) (fun v11 h12 =>
 cnd v11
 (bnd (oNil t0) fun v13 =>
 bnd (oFieldPtr v13 1) fun v14 =>
 bnd (oLoad false 1 h12 v14) fun v15 =>
 bnd (oBin .add 6 v15 (.int .i64 1)) fun v16 =>
 bnd (oNil t0) fun v17 =>
 bnd (oFieldPtr v17 1) fun v18 =>
 beff (oStore base 1 h12 v18 v16) fun v19 h20 =>
 ref03_reader_skip_l1 base t0 t3 h20)
 (bnd (oBin .gtr 6 v7 (.int .i64 0)) fun v21 =>
 bnd (gua v21 true (oMove t0) (some (.tup []))) fun v22 =>
 bnd (gua v21 true (oMove v7) (some (.tup []))) fun v23 =>
 bcall (gua v21 true (E n_ref03_reader_at [v22, v23] h12) (some (.ret (.tup []), h12))) (fun v24 h25 =>
 bcall (gua v21 true (E n_ref03_blank [v24] h25) (some (.ret (.tup []), h25))) (fun v26 h27 =>
 bnd (oPick v21 v26 (.bool false)) fun v28 =>
 cnd v28
 (bnd (oNil t0) fun v29 =>
 bnd (oFieldPtr v29 1) fun v30 =>
 bnd (oLoad false 1 h27 v30) fun v31 =>
 bnd (oBin .add 6 v31 v7) fun v32 =>
 bnd (oNil t0) fun v33 =>
 bnd (oFieldPtr v33 1) fun v34 =>
 beff (oStore base 1 h27 v34 v32) fun v35 h36 =>
 ref03_reader_skip_l1 base t0 t3 h36)
 (bnd (oNil t0) fun v37 =>
 bnd (oFieldPtr v37 1) fun v38 =>
 bnd (oLoad false 1 h27 v38) fun v39 =>
 bnd (oBin .gtr 6 v39 t3) fun v40 =>
 rt false base v40 h27))
 (fun v26 h27 => pn false base v26 h27))
 (fun v24 h25 => pn false base v24 h25)))
 (fun v11 h12 => pn false base v11 h12))
 (fun v9 h10 => pn false base v9 h10))
 (fun v7 h8 => pn false base v7 h8))
 (rt false base (.bool false) H) := (loop_eq (cAt [1, 1, 0, 0, 0] ref03_reader_skip_c) ((blockK 0 ((seqK (fun _ t => ref03_reader_skip_C base (cAt [1, 1, 1] ref03_reader_skip_c) (ref03_reader_skip_e base) (trimA ref03_reader_skip_ks (cAt [1, 1, 1] ref03_reader_skip_c) t)) (ref03_reader_skip_e base))))) _ H []).trans (by kernel_rfl)
def ref03_reader_skip (base : Nat) (t0 : V) (H : Heap) : Option (Out × Heap) := ref03_reader_skip_C base ref03_reader_skip_c (ref03_reader_skip_e base) [(0, t0)] H []
theorem ref03_reader_skip_eq (base : Nat) (t0 : V) (H : Heap) : ref03_reader_skip base t0 H =
 bnd (oNil t0) fun v0 =>
 bnd (oFieldPtr v0 1) fun v1 =>
 bnd (oLoad false 1 H v1) fun v2 =>
 ref03_reader_skip_l1 base t0 v2 H := by kernel_rfl
theorem ref03_reader_skip_E (t0 : V) (H : Heap) : E n_ref03_reader_skip [t0] H = ref03_reader_skip H.length t0 H := (EV_at Try.func33 (by kernel_rfl) (by kernel_rfl) (by kernel_rfl)).trans (by kernel_rfl)

def ref03_reader_alt_c : Code := bodyOf Try.f34
def ref03_reader_alt_ks : Ks := [(2, [0, 1, 4, 5]), (10, [4, 5])]
def ref03_reader_alt_e (base : Nat) : KC (Out × Heap) := xEnd Try.prog D false base 52 Try.f34.results.toList
def ref03_reader_alt_C (base : Nat) (c : Code) (k : KC (Out × Heap)) (t : Ts) (H : Heap) (d : Ds) : Option (Out × Heap) := xC Try.prog base true ref03_reader_alt_ks E 52 c k t H d
def ref03_reader_alt_l1 (base : Nat) (t0 t1 t4 t5 : V) (H : Heap) : Option (Out × Heap) :=
iterL (fun t H d again => ref03_reader_alt_C base (cAt [1, 1, 0, 0, 0] ref03_reader_alt_c) (loopK ref03_reader_alt_ks (cAt [1, 1, 0, 0, 0] ref03_reader_alt_c) again ((blockK 0 ((seqK (fun _ t => ref03_reader_alt_C base (cAt [1, 1, 1] ref03_reader_alt_c) (ref03_reader_alt_e base) (trimA ref03_reader_alt_ks (cAt [1, 1, 1] ref03_reader_alt_c) t)) (ref03_reader_alt_e base)))))) t H d) [(0, t0), (1, t1), (4, t4), (5, t5)] H []
def ref03_reader_alt_j2 (base : Nat) (t4 t5 : V) (H : Heap) : Option (Out × Heap) :=
ref03_reader_alt_C base (cAt [1, 1, 1] ref03_reader_alt_c) (ref03_reader_alt_e base) [(4, t4), (5, t5)] H []
theorem ref03_reader_alt_j2_eq (base : Nat) (t4 t5 : V) (H : Heap) : ref03_reader_alt_j2 base t4 t5 H =
 bnd (oLenSl t5) fun v22 =>
 bnd (oBin .eql 6 v22 (.int .i64 1)) fun v23 =>
 cnd v23
 (bnd (oIndexPtr 6 t5 (.int .i64 0)) fun v24 =>
 bnd (oLoad true 6 H v24) fun v25 =>
 beff (oStore base 6 H t4 v25) fun v26 h27 =>
 bnd (oLoad true 6 h27 t4) fun v28 =>
 rt false base v28 h27)
 (bnd (oBuild [(.int .i64 0), (.str []), .nils, (.int .i64 0), (.int .i64 0), .nils] [(0, 1), (1, 1), (2, 1), (3, 1), (4, 1), (5, 1)] [(0, (.int .i64 1)), (5, t5)]) fun v29 =>
 beff (oStore base 6 H t4 v29) fun v30 h31 =>
 bnd (oLoad true 6 h31 t4) fun v32 =>
 rt false base v32 h31) := by kernel_rfl
theorem ref03_reader_alt_l1_eq (base : Nat) (t0 t1 t4 t5 : V) (H : Heap) : ref03_reader_alt_l1 base t0 t1 t4 t5 H =
 bnd (oNil t0) fun v6 =>
 bnd (oFieldPtr v6 2) fun v7 =>
 bnd (oLoad false 1 H v7) fun v8 =>
 bnd (oBin .eql 6 v8 (.int .i64 0)) fun v9 =>
 cnd v9
 (bnd (oNil t0) fun v10 =>
 bnd (oFieldPtr v10 1) fun v11 =>
 bnd (oLoad false 1 H v11) fun v12 =>
 bcall (E n_ref03_reader_skip [t0] H) (fun v13 h14 =>
 bcall (E n_ref03_reader_at [t0, (.int .i64 0)] h14) (fun v15 h16 =>
 bnd (oBin .neq 6 v15 (.int .i64 47)) fun v17 =>
 cnd v17
 (bnd (oNil t0) fun v18 =>
 bnd (oFieldPtr v18 1) fun v19 =>
 beff (oStore base 1 h16 v19 v12) fun v20 h21 =>
 ref03_reader_alt_j2 base t4 t5 h21)
 (bnd (oNil t0) fun v33 =>
 bnd (oFieldPtr v33 1) fun v34 =>
 bnd (oLoad false 1 h16 v34) fun v35 =>
 bnd (oBin .add 6 v35 (.int .i64 1)) fun v36 =>
 bnd (oNil t0) fun v37 =>
 bnd (oFieldPtr v37 1) fun v38 =>
 beff (oStore base 1 h16 v38 v36) fun v39 h40 =>
 bcall (E n_ref03_reader_skip [t0] h40) (fun v41 h42 =>
 bcall (E n_ref03_reader_seq [t0, t1] h42) (fun v43 h44 =>
 bnd (oLit 6 1 (.agg [(.int .i64 0), (.str []), (.vs []), (.int .i64 0), (.int .i64 0), (.vs [])]) [(0, v43)]) fun v45 =>
 beff (oAppend base 6 88 true t5 v45 h44) fun v46 h47 =>
 ref03_reader_alt_l1 base t0 t1 t4 v46 h47)
 (fun v43 h44 => pn false base v43 h44))
 (fun v41 h42 => pn false base v41 h42)))
 (fun v15 h16 => pn false base v15 h16))
 (fun v13 h14 => pn false base v13 h14))
 (ref03_reader_alt_j2 base t4 t5 H) := (loop_eq (cAt [1, 1, 0, 0, 0] ref03_reader_alt_c) ((blockK 0 ((seqK (fun _ t => ref03_reader_alt_C base (cAt [1, 1, 1] ref03_reader_alt_c) (ref03_reader_alt_e base) (trimA ref03_reader_alt_ks (cAt [1, 1, 1] ref03_reader_alt_c) t)) (ref03_reader_alt_e base))))) _ H []).trans (by kernel_rfl)
def ref03_reader_alt (base : Nat) (t0 t1 : V) (H : Heap) : Option (Out × Heap) := ref03_reader_alt_C base ref03_reader_alt_c (ref03_reader_alt_e base) [(0, t0), (1, t1)] H []
theorem ref03_reader_alt_eq (base : Nat) (t0 t1 : V) (H : Heap) : ref03_reader_alt base t0 t1 H =
 beff (oVar H (.agg [(.int .i64 0), (.str []), .nils, (.int .i64 0), (.int .i64 0), .nils])) fun v0 h1 =>
 bcall (E n_ref03_reader_seq [t0, t1] h1) (fun v2 h3 =>
 beff (oRow 1 6 true [(.int .i64 0), (.str []), .nils, (.int .i64 0), (.int .i64 0), .nils] h3 [(0, v2)]) fun v4 h5 =>
 ref03_reader_alt_l1 base t0 t1 v0 v4 h5)
 (fun v2 h3 => pn false base v2 h3) := by kernel_rfl
theorem ref03_reader_alt_E (t0 t1 : V) (H : Heap) : E n_ref03_reader_alt [t0, t1] H = ref03_reader_alt H.length t0 t1 H := (EV_at Try.func34 (by kernel_rfl) (by kernel_rfl) (by kernel_rfl)).trans (by kernel_rfl)

def reader_reader_is_c : Code := bodyOf Try.f35
def reader_reader_is_ks : Ks := []
def reader_reader_is_e (base : Nat) : KC (Out × Heap) := xEnd Try.prog D false base 19 Try.f35.results.toList
def reader_reader_is_C (base : Nat) (c : Code) (k : KC (Out × Heap)) (t : Ts) (H : Heap) (d : Ds) : Option (Out × Heap) := xC Try.prog base false reader_reader_is_ks E 19 c k t H d
def reader_reader_is (base : Nat) (t0 t1 : V) (H : Heap) : Option (Out × Heap) := reader_reader_is_C base reader_reader_is_c (reader_reader_is_e base) [(0, t0), (1, t1)] H []
theorem reader_reader_is_eq (base : Nat) (t0 t1 : V) (H : Heap) : reader_reader_is base t0 t1 H =
 bnd (oNil t0) fun v0 =>
 bnd (oFieldPtr v0 0) fun v1 =>
 bnd (oLoad false 1 H v1) fun v2 =>
 bnd (oBin .neq 6 v2 (.str [])) fun v3 =>
 bnd (gua v3 true (oMove t0) (some (.tup []))) fun v4 =>
 bnd (gua v3 true (oNil v4) (some (.tup []))) fun v5 =>
 bnd (gua v3 true (oFieldPtr v5 0) (some (.tup []))) fun v6 =>
 bnd (gua v3 true (oLoad false 1 H v6) (some (.tup []))) fun v7 =>
 bnd (gua v3 true (oIndexStr v7 (.int .i64 0)) (some (.tup []))) fun v8 =>
 bnd (gua v3 true (oMove t1) (some (.tup []))) fun v9 =>
 bnd (gua v3 true (oBin .eql 6 v8 v9) (some (.tup []))) fun v10 =>
 bnd (oPick v3 v10 (.bool false)) fun v11 =>
 rt false base v11 H := by kernel_rfl
theorem reader_reader_is_E (t0 t1 : V) (H : Heap) : E n_reader_reader_is [t0, t1] H = reader_reader_is H.length t0 t1 H := (EV_at Try.func35 (by kernel_rfl) (by kernel_rfl) (by kernel_rfl)).trans (by kernel_rfl)

def reader_reader_end_1_c : Code := bodyOf Try.f36
def reader_reader_end_1_ks : Ks := []
def reader_reader_end_1_e (base : Nat) : KC (Out × Heap) := xEnd Try.prog D false base 13 Try.f36.results.toList
def reader_reader_end_1_C (base : Nat) (c : Code) (k : KC (Out × Heap)) (t : Ts) (H : Heap) (d : Ds) : Option (Out × Heap) := xC Try.prog base false reader_reader_end_1_ks E 13 c k t H d
def reader_reader_end_1 (base : Nat) (t0 : V) (H : Heap) : Option (Out × Heap) := reader_reader_end_1_C base reader_reader_end_1_c (reader_reader_end_1_e base) [(0, t0)] H []
theorem reader_reader_end_1_eq (base : Nat) (t0 : V) (H : Heap) : reader_reader_end_1 base t0 H =
 bcall (E n_reader_isBlank [t0] H) (fun v0 h1 =>
 bnd (gua v0 false (oMove t0) (some (.tup []))) fun v2 =>
 bnd (gua v0 false (oBin .gtr 6 v2 (.int .u8 32)) (some (.tup []))) fun v3 =>
 bnd (gua v0 false (oMove v3) (some (.tup []))) fun v4 =>
 bnd (gua v4 true (oMove t0) (some (.tup []))) fun v5 =>
 bnd (gua v4 true (oBin .leq 6 v5 (.int .u8 126)) (some (.tup []))) fun v6 =>
 bnd (gua v0 false (oPick v4 v6 (.bool false)) (some (.tup []))) fun v7 =>
 bnd (oPick v0 (.bool true) v7) fun v8 =>
 rt false base v8 h1)
 (fun v0 h1 => pn false base v0 h1) := by kernel_rfl
theorem reader_reader_end_1_E (t0 : V) (H : Heap) : E n_reader_reader_end_1 [t0] H = reader_reader_end_1 H.length t0 H := (EV_at Try.func36 (by kernel_rfl) (by kernel_rfl) (by kernel_rfl)).trans (by kernel_rfl)

def strings_HasPrefix_c : Code := bodyOf Try.f37
def strings_HasPrefix_ks : Ks := []
def strings_HasPrefix_e (base : Nat) : KC (Out × Heap) := xEnd Try.prog D false base 8 Try.f37.results.toList
def strings_HasPrefix_C (base : Nat) (c : Code) (k : KC (Out × Heap)) (t : Ts) (H : Heap) (d : Ds) : Option (Out × Heap) := xC Try.prog base false strings_HasPrefix_ks E 8 c k t H d
def strings_HasPrefix (base : Nat) (t0 t1 : V) (H : Heap) : Option (Out × Heap) := strings_HasPrefix_C base strings_HasPrefix_c (strings_HasPrefix_e base) [(0, t0), (1, t1)] H []
theorem strings_HasPrefix_eq (base : Nat) (t0 t1 : V) (H : Heap) : strings_HasPrefix base t0 t1 H =
 bcall (E n_internal_stringslite_HasPrefix [t0, t1] H) (fun v0 h1 =>
 rt false base v0 h1)
 (fun v0 h1 => pn false base v0 h1) := by kernel_rfl
theorem strings_HasPrefix_E (t0 t1 : V) (H : Heap) : E n_strings_HasPrefix [t0, t1] H = strings_HasPrefix H.length t0 t1 H := (EV_at Try.func37 (by kernel_rfl) (by kernel_rfl) (by kernel_rfl)).trans (by kernel_rfl)

def reader_reader_name_c : Code := bodyOf Try.f38
def reader_reader_name_ks : Ks := []
def reader_reader_name_e (base : Nat) : KC (Out × Heap) := xEnd Try.prog D false base 31 Try.f38.results.toList
def reader_reader_name_C (base : Nat) (c : Code) (k : KC (Out × Heap)) (t : Ts) (H : Heap) (d : Ds) : Option (Out × Heap) := xC Try.prog base false reader_reader_name_ks E 31 c k t H d
def reader_reader_name (base : Nat) (t0 : V) (H : Heap) : Option (Out × Heap) := reader_reader_name_C base reader_reader_name_c (reader_reader_name_e base) [(0, t0)] H []
theorem reader_reader_name_eq (base : Nat) (t0 : V) (H : Heap) : reader_reader_name base t0 H =
 bnd (oNil t0) fun v0 =>
 bnd (oFieldPtr v0 0) fun v1 =>
 bnd (oLoad false 1 H v1) fun v2 =>
 bnd (oBin .neq 6 v2 (.str [])) fun v3 =>
 bnd (gua v3 true (oMove t0) (some (.tup []))) fun v4 =>
 bnd (gua v3 true (oNil v4) (some (.tup []))) fun v5 =>
 bnd (gua v3 true (oFieldPtr v5 0) (some (.tup []))) fun v6 =>
 bnd (gua v3 true (oLoad false 1 H v6) (some (.tup []))) fun v7 =>
 bnd (gua v3 true (oIndexStr v7 (.int .i64 0)) (some (.tup []))) fun v8 =>
 bcall (gua v3 true (E n_reader_isLetter [v8] H) (some (.ret (.tup []), H))) (fun v9 h10 =>
 bnd (oPick v3 v9 (.bool false)) fun v11 =>
 bcall (E n_reader_want [v11, (.int .i64 20)] h10) (fun v12 h13 =>
 bnd (oNil t0) fun v14 =>
 bnd (oFieldPtr v14 0) fun v15 =>
 bnd (oLoad false 1 h13 v15) fun v16 =>
 bcall (E n_reader_run [v16, (.fn n_reader_reader_name_1 [])] h13) (fun v17 h18 =>
 bcall (E n_reader_reader_cut [t0, v17] h18) (fun v19 h20 =>
 bnd (oLenStr v19) fun v21 =>
 bnd (oBin .leq 6 v21 (.int .i64 40)) fun v22 =>
 bcall (E n_reader_want [v22, (.int .i64 2)] h20) (fun v23 h24 =>
 bcall (E n_reader_small [v19] h24) (fun v25 h26 =>
 rt false base v25 h26)
 (fun v25 h26 => pn false base v25 h26))
 (fun v23 h24 => pn false base v23 h24))
 (fun v19 h20 => pn false base v19 h20))
 (fun v17 h18 => pn false base v17 h18))
 (fun v12 h13 => pn false base v12 h13))
 (fun v9 h10 => pn false base v9 h10) := by kernel_rfl
theorem reader_reader_name_E (t0 : V) (H : Heap) : E n_reader_reader_name [t0] H = reader_reader_name H.length t0 H := (EV_at Try.func38 (by kernel_rfl) (by kernel_rfl) (by kernel_rfl)).trans (by kernel_rfl)

def reader_reader_room_c : Code := bodyOf Try.f39
def reader_reader_room_ks : Ks := [(2, [0, 3]), (8, [0, 3])]
def reader_reader_room_e (base : Nat) : KC (Out × Heap) := xEnd Try.prog D false base 56 Try.f39.results.toList
def reader_reader_room_C (base : Nat) (c : Code) (k : KC (Out × Heap)) (t : Ts) (H : Heap) (d : Ds) : Option (Out × Heap) := xC Try.prog base false reader_reader_room_ks E 56 c k t H d
def reader_reader_room_l1 (base : Nat) (t0 t3 : V) (H : Heap) : Option (Out × Heap) :=
iterL (fun t H d again => reader_reader_room_C base (cAt [1, 0, 1, 1, 0, 0, 0] reader_reader_room_c) (loopK reader_reader_room_ks (cAt [1, 0, 1, 1, 0, 0, 0] reader_reader_room_c) again ((blockK 0 ((seqK (fun _ t => reader_reader_room_C base (cAt [1, 0, 1, 1, 1] reader_reader_room_c) (reader_reader_room_e base) (trimA reader_reader_room_ks (cAt [1, 0, 1, 1, 1] reader_reader_room_c) t)) (reader_reader_room_e base)))))) t H d) [(0, t0), (3, t3)] H []
def reader_reader_room_j2 (base : Nat) (t0 t3 : V) (H : Heap) : Option (Out × Heap) :=
reader_reader_room_C base (cAt [1, 0, 1, 1, 1] reader_reader_room_c) (reader_reader_room_e base) [(0, t0), (3, t3)] H []
theorem reader_reader_room_j2_eq (base : Nat) (t0 t3 : V) (H : Heap) : reader_reader_room_j2 base t0 t3 H =
 bnd (oNil t0) fun v37 =>
 bnd (oFieldPtr v37 0) fun v38 =>
 bnd (oLoad false 1 H v38) fun v39 =>
 bnd (oLenStr v39) fun v40 =>
 bnd (oBin .lss 6 v40 t3) fun v41 =>
 rt false base v41 H := by kernel_rfl
theorem reader_reader_room_l1_eq (base : Nat) (t0 t3 : V) (H : Heap) : reader_reader_room_l1 base t0 t3 H =
 bnd (oNil t0) fun v4 =>
 bnd (oFieldPtr v4 0) fun v5 =>
 bnd (oLoad false 1 H v5) fun v6 =>
 bnd (oBin .neq 6 v6 (.str [])) fun v7 =>
 cnd v7
 (bnd (oNil t0) fun v8 =>
 bnd (oFieldPtr v8 0) fun v9 =>
 bnd (oLoad false 1 H v9) fun v10 =>
 bnd (oIndexStr v10 (.int .i64 0)) fun v11 =>
 bcall (E n_reader_isBlank [v11] H) (fun v12 h13 =>
 cnd v12
 (bcall (E n_reader_reader_cut [t0, (.int .i64 1)] h13) (fun v14 h15 =>
 reader_reader_room_l1 base t0 t3 h15)
 (fun v14 h15 => pn false base v14 h15))
 (bcall (E n_reader_reader_end [t0] h13) (fun v16 h17 =>
 bnd (oBin .leq 6 v16 (.int .i64 0)) fun v18 =>
 bnd (gua v18 false (oMove v16) (some (.tup []))) fun v19 =>
 bnd (gua v18 false (oMove t0) (some (.tup []))) fun v20 =>
 bnd (gua v18 false (oNil v20) (some (.tup []))) fun v21 =>
 bnd (gua v18 false (oFieldPtr v21 0) (some (.tup []))) fun v22 =>
 bnd (gua v18 false (oLoad false 1 h17 v22) (some (.tup []))) fun v23 =>
 bnd (gua v18 false (oLenStr v23) (some (.tup []))) fun v24 =>
 bnd (gua v18 false (oBin .geq 6 v19 v24) (some (.tup []))) fun v25 =>
 bnd (oPick v18 (.bool true) v25) fun v26 =>
 bnd (gua v26 false (oMove t0) (some (.tup []))) fun v27 =>
 bnd (gua v26 false (oNil v27) (some (.tup []))) fun v28 =>
 bnd (gua v26 false (oFieldPtr v28 0) (some (.tup []))) fun v29 =>
 bnd (gua v26 false (oLoad false 1 h17 v29) (some (.tup []))) fun v30 =>
 bnd (gua v26 false (oMove v16) (some (.tup []))) fun v31 =>
 bnd (gua v26 false (oIndexStr v30 v31) (some (.tup []))) fun v32 =>
 bcall (gua v26 false (E n_reader_isBlank [v32] h17) (some (.ret (.tup []), h17))) (fun v33 h34 =>
 bnd (gua v26 false (oUn .not v33) (some (.tup []))) fun v35 =>
 bnd (oPick v26 (.bool true) v35) fun v36 =>
 cnd v36
 (reader_reader_room_j2 base t0 t3 h34)
 (bcall (E n_reader_reader_cut [t0, v16] h34) (fun v42 h43 =>
 reader_reader_room_l1 base t0 t3 h43)
 (fun v42 h43 => pn false base v42 h43)))
 (fun v33 h34 => pn false base v33 h34))
 (fun v16 h17 => pn false base v16 h17)))
 (fun v12 h13 => pn false base v12 h13))
 (reader_reader_room_j2 base t0 t3 H) := (loop_eq (cAt [1, 0, 1, 1, 0, 0, 0] reader_reader_room_c) ((blockK 0 ((seqK (fun _ t => reader_reader_room_C base (cAt [1, 0, 1, 1, 1] reader_reader_room_c) (reader_reader_room_e base) (trimA reader_reader_room_ks (cAt [1, 0, 1, 1, 1] reader_reader_room_c) t)) (reader_reader_room_e base))))) _ H []).trans (by kernel_rfl)
def reader_reader_room (base : Nat) (t0 : V) (H : Heap) : Option (Out × Heap) := reader_reader_room_C base reader_reader_room_c (reader_reader_room_e base) [(0, t0)] H []
theorem reader_reader_room_eq (base : Nat) (t0 : V) (H : Heap) : reader_reader_room base t0 H =
 bnd (oNil t0) fun v0 =>
 bnd (oFieldPtr v0 0) fun v1 =>
 bnd (oLoad false 1 H v1) fun v2 =>
 bnd (oLenStr v2) fun v3 =>
 reader_reader_room_l1 base t0 v3 H := by kernel_rfl
theorem reader_reader_room_E (t0 : V) (H : Heap) : E n_reader_reader_room [t0] H = reader_reader_room H.length t0 H := (EV_at Try.func39 (by kernel_rfl) (by kernel_rfl) (by kernel_rfl)).trans (by kernel_rfl)

def reader_reader_take_c : Code := bodyOf Try.f40
def reader_reader_take_ks : Ks := [(4, [5])]
def reader_reader_take_e (base : Nat) : KC (Out × Heap) := xEnd Try.prog D false base 13 Try.f40.results.toList
def reader_reader_take_C (base : Nat) (c : Code) (k : KC (Out × Heap)) (t : Ts) (H : Heap) (d : Ds) : Option (Out × Heap) := xC Try.prog base false reader_reader_take_ks E 13 c k t H d
def reader_reader_take_j1 (base : Nat) (t5 : V) (H : Heap) : Option (Out × Heap) :=
reader_reader_take_C base (cAt [1, 1, 1] reader_reader_take_c) (reader_reader_take_e base) [(5, t5)] H []
theorem reader_reader_take_j1_eq (base : Nat) (t5 : V) (H : Heap) : reader_reader_take_j1 base t5 H =
 rt false base t5 H := by kernel_rfl
def reader_reader_take (base : Nat) (t0 t1 : V) (H : Heap) : Option (Out × Heap) := reader_reader_take_C base reader_reader_take_c (reader_reader_take_e base) [(0, t0), (1, t1)] H []
theorem reader_reader_take_eq (base : Nat) (t0 t1 : V) (H : Heap) : reader_reader_take base t0 t1 H =
 bcall (E n_reader_reader_is [t0, t1] H) (fun v0 h1 =>
 cnd v0
 (bcall (E n_reader_reader_cut [t0, (.int .i64 1)] h1) (fun v2 h3 =>
 reader_reader_take_j1 base v0 h3)
 (fun v2 h3 => pn false base v2 h3))
 (reader_reader_take_j1 base v0 h1))
 (fun v0 h1 => pn false base v0 h1) := by kernel_rfl
theorem reader_reader_take_E (t0 t1 : V) (H : Heap) : E n_reader_reader_take [t0, t1] H = reader_reader_take H.length t0 t1 H := (EV_at Try.func40 (by kernel_rfl) (by kernel_rfl) (by kernel_rfl)).trans (by kernel_rfl)

def reader_reader_ways_c : Code := bodyOf Try.f41
def reader_reader_ways_ks : Ks := [(2, [0, 1, 4, 5])]
def reader_reader_ways_e (base : Nat) : KC (Out × Heap) := xEnd Try.prog D false base 34 Try.f41.results.toList
def reader_reader_ways_C (base : Nat) (c : Code) (k : KC (Out × Heap)) (t : Ts) (H : Heap) (d : Ds) : Option (Out × Heap) := xC Try.prog base true reader_reader_ways_ks E 34 c k t H d
def reader_reader_ways_l1 (base : Nat) (t0 t1 t4 t5 : V) (H : Heap) : Option (Out × Heap) :=
iterL (fun t H d again => reader_reader_ways_C base (cAt [1, 1, 0, 0] reader_reader_ways_c) (loopK reader_reader_ways_ks (cAt [1, 1, 0, 0] reader_reader_ways_c) again ((blockK 0 (reader_reader_ways_e base)))) t H d) [(0, t0), (1, t1), (4, t4), (5, t5)] H []
theorem reader_reader_ways_l1_eq (base : Nat) (t0 t1 t4 t5 : V) (H : Heap) : reader_reader_ways_l1 base t0 t1 t4 t5 H =
 bnd (oNil t0) fun v6 =>
 bnd (oFieldPtr v6 0) fun v7 =>
 bnd (oLoad false 1 H v7) fun v8 =>
 bcall (E n_reader_reader_room [t0] H) (fun v9 h10 =>
 bcall (E n_reader_reader_take [t0, (.int .u8 47)] h10) (fun v11 h12 =>
 bnd (oUn .not v11) fun v13 =>
 cnd v13
 (bnd (oNil t0) fun v14 =>
 bnd (oFieldPtr v14 0) fun v15 =>
 beff (oStore base 1 h12 v15 v8) fun v16 h17 =>
 bcall (E n_reader_some [(.int .i64 1), t5] h17) (fun v18 h19 =>
 beff (oStore base 6 h19 t4 v18) fun v20 h21 =>
 bnd (oLoad true 6 h21 t4) fun v22 =>
 rt false base v22 h21)
 (fun v18 h19 => pn false base v18 h19))
 (bcall (E n_reader_reader_room [t0] h12) (fun v23 h24 =>
 bcall (E n_reader_reader_row [t0, t1] h24) (fun v25 h26 =>
 bnd (oLit 6 1 (.agg [(.int .i64 0), (.str []), (.vs []), (.int .i64 0), (.int .i64 0), (.vs [])]) [(0, v25)]) fun v27 =>
 beff (oAppend base 6 88 true t5 v27 h26) fun v28 h29 =>
 reader_reader_ways_l1 base t0 t1 t4 v28 h29)
 (fun v25 h26 => pn false base v25 h26))
 (fun v23 h24 => pn false base v23 h24)))
 (fun v11 h12 => pn false base v11 h12))
 (fun v9 h10 => pn false base v9 h10) := (loop_eq (cAt [1, 1, 0, 0] reader_reader_ways_c) ((blockK 0 (reader_reader_ways_e base))) _ H []).trans (by kernel_rfl)
def reader_reader_ways (base : Nat) (t0 t1 : V) (H : Heap) : Option (Out × Heap) := reader_reader_ways_C base reader_reader_ways_c (reader_reader_ways_e base) [(0, t0), (1, t1)] H []
theorem reader_reader_ways_eq (base : Nat) (t0 t1 : V) (H : Heap) : reader_reader_ways base t0 t1 H =
 beff (oVar H (.agg [(.int .i64 0), (.str []), .nils, (.int .i64 0), (.int .i64 0), .nils])) fun v0 h1 =>
 bcall (E n_reader_reader_row [t0, t1] h1) (fun v2 h3 =>
 beff (oRow 1 6 true [(.int .i64 0), (.str []), .nils, (.int .i64 0), (.int .i64 0), .nils] h3 [(0, v2)]) fun v4 h5 =>
 reader_reader_ways_l1 base t0 t1 v0 v4 h5)
 (fun v2 h3 => pn false base v2 h3) := by kernel_rfl
theorem reader_reader_ways_E (t0 t1 : V) (H : Heap) : E n_reader_reader_ways [t0, t1] H = reader_reader_ways H.length t0 t1 H := (EV_at Try.func41 (by kernel_rfl) (by kernel_rfl) (by kernel_rfl)).trans (by kernel_rfl)

def reader_fail_c : Code := bodyOf Try.f42
def reader_fail_ks : Ks := []
def reader_fail_e (base : Nat) : KC (Out × Heap) := xEnd Try.prog D false base 4 Try.f42.results.toList
def reader_fail_C (base : Nat) (c : Code) (k : KC (Out × Heap)) (t : Ts) (H : Heap) (d : Ds) : Option (Out × Heap) := xC Try.prog base false reader_fail_ks E 4 c k t H d
def reader_fail (base : Nat) (t0 : V) (H : Heap) : Option (Out × Heap) := reader_fail_C base reader_fail_c (reader_fail_e base) [(0, t0)] H []
theorem reader_fail_eq (base : Nat) (t0 : V) (H : Heap) : reader_fail base t0 H =
 bnd (oIface ty_api_Errno t0) fun v0 =>
 bnd (oPanic v0) fun v1 => pn false base v1 H := by kernel_rfl
theorem reader_fail_E (t0 : V) (H : Heap) : E n_reader_fail [t0] H = reader_fail H.length t0 H := (EV_at Try.func42 (by kernel_rfl) (by kernel_rfl) (by kernel_rfl)).trans (by kernel_rfl)
end
end Go.Proofs.Ytjnnegacjmcdbaa
end

