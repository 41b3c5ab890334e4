/- Fn3: a part of the proof that each law of this seat answers true at every input. No condition. -/
import Derived.Test.YtjnnegacjmcdbaaHint
import Derived.KernelRfl
set_option linter.unusedVariables false
set_option linter.unusedSimpArgs false
set_option maxRecDepth 20000
section
/- Printed: what functions do. -/
namespace Go.Proofs.Ytjnnegacjmcdbaa
open Go Go.Ev
set_option linter.unusedVariables false
noncomputable section

def ref03_alpha_c : Code := bodyOf Try.f43
def ref03_alpha_ks : Ks := []
def ref03_alpha_e (base : Nat) : KC (Out × Heap) := xEnd Try.prog D false base 17 Try.f43.results.toList
def ref03_alpha_C (base : Nat) (c : Code) (k : KC (Out × Heap)) (t : Ts) (H : Heap) (d : Ds) : Option (Out × Heap) := xC Try.prog base false ref03_alpha_ks E 17 c k t H d
def ref03_alpha (base : Nat) (t0 : V) (H : Heap) : Option (Out × Heap) := ref03_alpha_C base ref03_alpha_c (ref03_alpha_e base) [(0, t0)] H []
theorem ref03_alpha_eq (base : Nat) (t0 : V) (H : Heap) : ref03_alpha base t0 H =
 bnd (oBin .geq 6 t0 (.int .i64 65)) fun v0 =>
 bnd (gua v0 true (oMove t0) (some (.tup []))) fun v1 =>
 bnd (gua v0 true (oBin .leq 6 v1 (.int .i64 90)) (some (.tup []))) fun v2 =>
 bnd (oPick v0 v2 (.bool false)) fun v3 =>
 bnd (gua v3 false (oMove t0) (some (.tup []))) fun v4 =>
 bnd (gua v3 false (oBin .geq 6 v4 (.int .i64 97)) (some (.tup []))) fun v5 =>
 bnd (gua v3 false (oMove v5) (some (.tup []))) fun v6 =>
 bnd (gua v6 true (oMove t0) (some (.tup []))) fun v7 =>
 bnd (gua v6 true (oBin .leq 6 v7 (.int .i64 122)) (some (.tup []))) fun v8 =>
 bnd (gua v3 false (oPick v6 v8 (.bool false)) (some (.tup []))) fun v9 =>
 bnd (oPick v3 (.bool true) v9) fun v10 =>
 rt false base v10 H := by kernel_rfl
theorem ref03_alpha_E (t0 : V) (H : Heap) : E n_ref03_alpha [t0] H = ref03_alpha H.length t0 H := (EV_at Try.func43 (by kernel_rfl) (by kernel_rfl) (by kernel_rfl)).trans (by kernel_rfl)

def ref03_digit_c : Code := bodyOf Try.f44
def ref03_digit_ks : Ks := []
def ref03_digit_e (base : Nat) : KC (Out × Heap) := xEnd Try.prog D false base 9 Try.f44.results.toList
def ref03_digit_C (base : Nat) (c : Code) (k : KC (Out × Heap)) (t : Ts) (H : Heap) (d : Ds) : Option (Out × Heap) := xC Try.prog base false ref03_digit_ks E 9 c k t H d
def ref03_digit (base : Nat) (t0 : V) (H : Heap) : Option (Out × Heap) := ref03_digit_C base ref03_digit_c (ref03_digit_e base) [(0, t0)] H []
theorem ref03_digit_eq (base : Nat) (t0 : V) (H : Heap) : ref03_digit base t0 H =
 bnd (oBin .geq 6 t0 (.int .i64 48)) fun v0 =>
 bnd (gua v0 true (oMove t0) (some (.tup []))) fun v1 =>
 bnd (gua v0 true (oBin .leq 6 v1 (.int .i64 57)) (some (.tup []))) fun v2 =>
 bnd (oPick v0 v2 (.bool false)) fun v3 =>
 rt false base v3 H := by kernel_rfl
theorem ref03_digit_E (t0 : V) (H : Heap) : E n_ref03_digit [t0] H = ref03_digit H.length t0 H := (EV_at Try.func44 (by kernel_rfl) (by kernel_rfl) (by kernel_rfl)).trans (by kernel_rfl)

def ref03_lower_c : Code := bodyOf Try.f45
def ref03_lower_ks : Ks := []
def ref03_lower_e (base : Nat) : KC (Out × Heap) := xEnd Try.prog D false base 12 Try.f45.results.toList
def ref03_lower_C (base : Nat) (c : Code) (k : KC (Out × Heap)) (t : Ts) (H : Heap) (d : Ds) : Option (Out × Heap) := xC Try.prog base false ref03_lower_ks E 12 c k t H d
def ref03_lower (base : Nat) (t0 : V) (H : Heap) : Option (Out × Heap) := ref03_lower_C base ref03_lower_c (ref03_lower_e base) [(0, t0)] H []
theorem ref03_lower_eq (base : Nat) (t0 : V) (H : Heap) : ref03_lower base t0 H =
 bnd (oBin .geq 6 t0 (.int .u8 65)) fun v0 =>
 bnd (gua v0 true (oMove t0) (some (.tup []))) fun v1 =>
 bnd (gua v0 true (oBin .leq 6 v1 (.int .u8 90)) (some (.tup []))) fun v2 =>
 bnd (oPick v0 v2 (.bool false)) fun v3 =>
 cnd v3
 (bnd (oBin .add 6 t0 (.int .u8 32)) fun v4 =>
 rt false base v4 H)
 (rt false base t0 H) := by kernel_rfl
theorem ref03_lower_E (t0 : V) (H : Heap) : E n_ref03_lower [t0] H = ref03_lower H.length t0 H := (EV_at Try.func45 (by kernel_rfl) (by kernel_rfl) (by kernel_rfl)).trans (by kernel_rfl)

def ref03_reader_seq_c : Code := bodyOf Try.f46
def ref03_reader_seq_ks : Ks := [(2, [0, 1, 4, 5]), (7, [4, 5])]
def ref03_reader_seq_e (base : Nat) : KC (Out × Heap) := xEnd Try.prog D false base 46 Try.f46.results.toList
def ref03_reader_seq_C (base : Nat) (c : Code) (k : KC (Out × Heap)) (t : Ts) (H : Heap) (d : Ds) : Option (Out × Heap) := xC Try.prog base true ref03_reader_seq_ks E 46 c k t H d
def ref03_reader_seq_l1 (base : Nat) (t0 t1 t4 t5 : V) (H : Heap) : Option (Out × Heap) :=
iterL (fun t H d again => ref03_reader_seq_C base (cAt [1, 1, 0, 0, 0] ref03_reader_seq_c) (loopK ref03_reader_seq_ks (cAt [1, 1, 0, 0, 0] ref03_reader_seq_c) again ((blockK 0 ((seqK (fun _ t => ref03_reader_seq_C base (cAt [1, 1, 1] ref03_reader_seq_c) (ref03_reader_seq_e base) (trimA ref03_reader_seq_ks (cAt [1, 1, 1] ref03_reader_seq_c) t)) (ref03_reader_seq_e base)))))) t H d) [(0, t0), (1, t1), (4, t4), (5, t5)] H []
def ref03_reader_seq_j2 (base : Nat) (t4 t5 : V) (H : Heap) : Option (Out × Heap) :=
ref03_reader_seq_C base (cAt [1, 1, 1] ref03_reader_seq_c) (ref03_reader_seq_e base) [(4, t4), (5, t5)] H []
theorem ref03_reader_seq_j2_eq (base : Nat) (t4 t5 : V) (H : Heap) : ref03_reader_seq_j2 base t4 t5 H =
 bnd (oLenSl t5) fun v25 =>
 bnd (oBin .eql 6 v25 (.int .i64 1)) fun v26 =>
 cnd v26
 (bnd (oIndexPtr 6 t5 (.int .i64 0)) fun v27 =>
 bnd (oLoad true 6 H v27) fun v28 =>
 beff (oStore base 6 H t4 v28) fun v29 h30 =>
 bnd (oLoad true 6 h30 t4) fun v31 =>
 rt false base v31 h30)
 (bnd (oBuild [(.int .i64 0), (.str []), .nils, (.int .i64 0), (.int .i64 0), .nils] [(0, 1), (1, 1), (2, 1), (3, 1), (4, 1), (5, 1)] [(0, (.int .i64 2)), (5, t5)]) fun v32 =>
 beff (oStore base 6 H t4 v32) fun v33 h34 =>
 bnd (oLoad true 6 h34 t4) fun v35 =>
 rt false base v35 h34) := by kernel_rfl
theorem ref03_reader_seq_l1_eq (base : Nat) (t0 t1 t4 t5 : V) (H : Heap) : ref03_reader_seq_l1 base t0 t1 t4 t5 H =
 bnd (oNil t0) fun v6 =>
 bnd (oFieldPtr v6 2) fun v7 =>
 bnd (oLoad false 1 H v7) fun v8 =>
 bnd (oBin .eql 6 v8 (.int .i64 0)) fun v9 =>
 cnd v9
 (bnd (oNil t0) fun v10 =>
 bnd (oFieldPtr v10 1) fun v11 =>
 bnd (oLoad false 1 H v11) fun v12 =>
 bcall (E n_ref03_reader_skip [t0] H) (fun v13 h14 =>
 bnd (oUn .not v13) fun v15 =>
 bnd (gua v15 false (oMove t0) (some (.tup []))) fun v16 =>
 bcall (gua v15 false (E n_ref03_reader_begins [v16] h14) (some (.ret (.tup []), h14))) (fun v17 h18 =>
 bnd (gua v15 false (oUn .not v17) (some (.tup []))) fun v19 =>
 bnd (oPick v15 (.bool true) v19) fun v20 =>
 cnd v20
 (bnd (oNil t0) fun v21 =>
 bnd (oFieldPtr v21 1) fun v22 =>
 beff (oStore base 1 h18 v22 v12) fun v23 h24 =>
 ref03_reader_seq_j2 base t4 t5 h24)
 (bcall (E n_ref03_reader_repeat [t0, t1] h18) (fun v36 h37 =>
 bnd (oLit 6 1 (.agg [(.int .i64 0), (.str []), (.vs []), (.int .i64 0), (.int .i64 0), (.vs [])]) [(0, v36)]) fun v38 =>
 beff (oAppend base 6 88 true t5 v38 h37) fun v39 h40 =>
 ref03_reader_seq_l1 base t0 t1 t4 v39 h40)
 (fun v36 h37 => pn false base v36 h37)))
 (fun v17 h18 => pn false base v17 h18))
 (fun v13 h14 => pn false base v13 h14))
 (ref03_reader_seq_j2 base t4 t5 H) := (loop_eq (cAt [1, 1, 0, 0, 0] ref03_reader_seq_c) ((blockK 0 ((seqK (fun _ t => ref03_reader_seq_C base (cAt [1, 1, 1] ref03_reader_seq_c) (ref03_reader_seq_e base) (trimA ref03_reader_seq_ks (cAt [1, 1, 1] ref03_reader_seq_c) t)) (ref03_reader_seq_e base))))) _ H []).trans (by kernel_rfl)
def ref03_reader_seq (base : Nat) (t0 t1 : V) (H : Heap) : Option (Out × Heap) := ref03_reader_seq_C base ref03_reader_seq_c (ref03_reader_seq_e base) [(0, t0), (1, t1)] H []
theorem ref03_reader_seq_eq (base : Nat) (t0 t1 : V) (H : Heap) : ref03_reader_seq base t0 t1 H =
 beff (oVar H (.agg [(.int .i64 0), (.str []), .nils, (.int .i64 0), (.int .i64 0), .nils])) fun v0 h1 =>
 bcall (E n_ref03_reader_repeat [t0, t1] h1) (fun v2 h3 =>
 beff (oRow 1 6 true [(.int .i64 0), (.str []), .nils, (.int .i64 0), (.int .i64 0), .nils] h3 [(0, v2)]) fun v4 h5 =>
 ref03_reader_seq_l1 base t0 t1 v0 v4 h5)
 (fun v2 h3 => pn false base v2 h3) := by kernel_rfl
theorem ref03_reader_seq_E (t0 t1 : V) (H : Heap) : E n_ref03_reader_seq [t0, t1] H = ref03_reader_seq H.length t0 t1 H := (EV_at Try.func46 (by kernel_rfl) (by kernel_rfl) (by kernel_rfl)).trans (by kernel_rfl)

def internal_stringslite_HasPrefix_c : Code := bodyOf Try.f47
def internal_stringslite_HasPrefix_ks : Ks := []
def internal_stringslite_HasPrefix_e (base : Nat) : KC (Out × Heap) := xEnd Try.prog D false base 18 Try.f47.results.toList
def internal_stringslite_HasPrefix_C (base : Nat) (c : Code) (k : KC (Out × Heap)) (t : Ts) (H : Heap) (d : Ds) : Option (Out × Heap) := xC Try.prog base false internal_stringslite_HasPrefix_ks E 18 c k t H d
def internal_stringslite_HasPrefix (base : Nat) (t0 t1 : V) (H : Heap) : Option (Out × Heap) := internal_stringslite_HasPrefix_C base internal_stringslite_HasPrefix_c (internal_stringslite_HasPrefix_e base) [(0, t0), (1, t1)] H []
theorem internal_stringslite_HasPrefix_eq (base : Nat) (t0 t1 : V) (H : Heap) : internal_stringslite_HasPrefix base t0 t1 H =
 bnd (oLenStr t0) fun v0 =>
 bnd (oLenStr t1) fun v1 =>
 bnd (oBin .geq 6 v0 v1) fun v2 =>
 bnd (gua v2 true (oMove t0) (some (.tup []))) fun v3 =>
 bnd (gua v2 true (oMove t1) (some (.tup []))) fun v4 =>
 bnd (gua v2 true (oLenStr v4) (some (.tup []))) fun v5 =>
 bnd (gua v2 true (oSliceStr v3 none (some v5) none) (some (.tup []))) fun v6 =>
 bnd (gua v2 true (oMove t1) (some (.tup []))) fun v7 =>
 bnd (gua v2 true (oBin .eql 6 v6 v7) (some (.tup []))) fun v8 =>
 bnd (oPick v2 v8 (.bool false)) fun v9 =>
 rt false base v9 H := by kernel_rfl
theorem internal_stringslite_HasPrefix_E (t0 t1 : V) (H : Heap) : E n_internal_stringslite_HasPrefix [t0, t1] H = internal_stringslite_HasPrefix H.length t0 t1 H := (EV_at Try.func47 (by kernel_rfl) (by kernel_rfl) (by kernel_rfl)).trans (by kernel_rfl)

def reader_isLetter_c : Code := bodyOf Try.f48
def reader_isLetter_ks : Ks := []
def reader_isLetter_e (base : Nat) : KC (Out × Heap) := xEnd Try.prog D false base 17 Try.f48.results.toList
def reader_isLetter_C (base : Nat) (c : Code) (k : KC (Out × Heap)) (t : Ts) (H : Heap) (d : Ds) : Option (Out × Heap) := xC Try.prog base false reader_isLetter_ks E 17 c k t H d
def reader_isLetter (base : Nat) (t0 : V) (H : Heap) : Option (Out × Heap) := reader_isLetter_C base reader_isLetter_c (reader_isLetter_e base) [(0, t0)] H []
theorem reader_isLetter_eq (base : Nat) (t0 : V) (H : Heap) : reader_isLetter base t0 H =
 bnd (oBin .geq 6 t0 (.int .u8 97)) fun v0 =>
 bnd (gua v0 true (oMove t0) (some (.tup []))) fun v1 =>
 bnd (gua v0 true (oBin .leq 6 v1 (.int .u8 122)) (some (.tup []))) fun v2 =>
 bnd (oPick v0 v2 (.bool false)) fun v3 =>
 bnd (gua v3 false (oMove t0) (some (.tup []))) fun v4 =>
 bnd (gua v3 false (oBin .geq 6 v4 (.int .u8 65)) (some (.tup []))) fun v5 =>
 bnd (gua v3 false (oMove v5) (some (.tup []))) fun v6 =>
 bnd (gua v6 true (oMove t0) (some (.tup []))) fun v7 =>
 bnd (gua v6 true (oBin .leq 6 v7 (.int .u8 90)) (some (.tup []))) fun v8 =>
 bnd (gua v3 false (oPick v6 v8 (.bool false)) (some (.tup []))) fun v9 =>
 bnd (oPick v3 (.bool true) v9) fun v10 =>
 rt false base v10 H := by kernel_rfl
theorem reader_isLetter_E (t0 : V) (H : Heap) : E n_reader_isLetter [t0] H = reader_isLetter H.length t0 H := (EV_at Try.func48 (by kernel_rfl) (by kernel_rfl) (by kernel_rfl)).trans (by kernel_rfl)

def reader_reader_name_1_c : Code := bodyOf Try.f49
def reader_reader_name_1_ks : Ks := []
def reader_reader_name_1_e (base : Nat) : KC (Out × Heap) := xEnd Try.prog D false base 13 Try.f49.results.toList
def reader_reader_name_1_C (base : Nat) (c : Code) (k : KC (Out × Heap)) (t : Ts) (H : Heap) (d : Ds) : Option (Out × Heap) := xC Try.prog base false reader_reader_name_1_ks E 13 c k t H d
def reader_reader_name_1 (base : Nat) (t0 : V) (H : Heap) : Option (Out × Heap) := reader_reader_name_1_C base reader_reader_name_1_c (reader_reader_name_1_e base) [(0, t0)] H []
theorem reader_reader_name_1_eq (base : Nat) (t0 : V) (H : Heap) : reader_reader_name_1 base t0 H =
 bcall (E n_reader_isLetter [t0] H) (fun v0 h1 =>
 bnd (gua v0 false (oMove t0) (some (.tup []))) fun v2 =>
 bcall (gua v0 false (E n_reader_isDigit [v2] h1) (some (.ret (.tup []), h1))) (fun v3 h4 =>
 bnd (oPick v0 (.bool true) v3) fun v5 =>
 bnd (gua v5 false (oMove t0) (some (.tup []))) fun v6 =>
 bnd (gua v5 false (oBin .eql 6 v6 (.int .u8 45)) (some (.tup []))) fun v7 =>
 bnd (oPick v5 (.bool true) v7) fun v8 =>
 rt false base v8 h4)
 (fun v3 h4 => pn false base v3 h4))
 (fun v0 h1 => pn false base v0 h1) := by kernel_rfl
theorem reader_reader_name_1_E (t0 : V) (H : Heap) : E n_reader_reader_name_1 [t0] H = reader_reader_name_1 H.length t0 H := (EV_at Try.func49 (by kernel_rfl) (by kernel_rfl) (by kernel_rfl)).trans (by kernel_rfl)

def reader_isDigit_c : Code := bodyOf Try.f50
def reader_isDigit_ks : Ks := []
def reader_isDigit_e (base : Nat) : KC (Out × Heap) := xEnd Try.prog D false base 9 Try.f50.results.toList
def reader_isDigit_C (base : Nat) (c : Code) (k : KC (Out × Heap)) (t : Ts) (H : Heap) (d : Ds) : Option (Out × Heap) := xC Try.prog base false reader_isDigit_ks E 9 c k t H d
def reader_isDigit (base : Nat) (t0 : V) (H : Heap) : Option (Out × Heap) := reader_isDigit_C base reader_isDigit_c (reader_isDigit_e base) [(0, t0)] H []
theorem reader_isDigit_eq (base : Nat) (t0 : V) (H : Heap) : reader_isDigit base t0 H =
 bnd (oBin .geq 6 t0 (.int .u8 48)) fun v0 =>
 bnd (gua v0 true (oMove t0) (some (.tup []))) fun v1 =>
 bnd (gua v0 true (oBin .leq 6 v1 (.int .u8 57)) (some (.tup []))) fun v2 =>
 bnd (oPick v0 v2 (.bool false)) fun v3 =>
 rt false base v3 H := by kernel_rfl
theorem reader_isDigit_E (t0 : V) (H : Heap) : E n_reader_isDigit [t0] H = reader_isDigit H.length t0 H := (EV_at Try.func50 (by kernel_rfl) (by kernel_rfl) (by kernel_rfl)).trans (by kernel_rfl)

def reader_small_c : Code := bodyOf Try.f51
def reader_small_ks : Ks := [(3, [3, 8, 9, 10]), (7, [3, 8, 9, 10])]
def reader_small_e (base : Nat) : KC (Out × Heap) := xEnd Try.prog D false base 30 Try.f51.results.toList
def reader_small_C (base : Nat) (c : Code) (k : KC (Out × Heap)) (t : Ts) (H : Heap) (d : Ds) : Option (Out × Heap) := xC Try.prog base false reader_small_ks E 30 c k t H d
def reader_small_l1 (base : Nat) (t3 t8 t9 t10 : V) (H : Heap) : Option (Out × Heap) :=
iterL (fun t H d again => reader_small_C base (cAt [1, 1, 0, 1, 0, 0] reader_small_c) (loopK reader_small_ks (cAt [1, 1, 0, 1, 0, 0] reader_small_c) again ((blockK 0 ((seqK (fun _ t => reader_small_C base (cAt [1, 1, 1] reader_small_c) (reader_small_e base) (trimA reader_small_ks (cAt [1, 1, 1] reader_small_c) t)) (reader_small_e base)))))) t H d) [(3, t3), (8, t8), (9, t9), (10, t10)] H []
def reader_small_j2 (base : Nat) (t3 t8 t9 t10 : V) (H : Heap) : Option (Out × Heap) :=
reader_small_C base (cAt [1, 1, 0, 1, 0, 0, 1, 1, 1] reader_small_c) ((loopK reader_small_ks (cAt [1, 1, 0, 1, 0, 0] reader_small_c) (iterL (fun t H d again => reader_small_C base (cAt [1, 1, 0, 1, 0, 0] reader_small_c) (loopK reader_small_ks (cAt [1, 1, 0, 1, 0, 0] reader_small_c) again ((blockK 0 ((seqK (fun _ t => reader_small_C base (cAt [1, 1, 1] reader_small_c) (reader_small_e base) (trimA reader_small_ks (cAt [1, 1, 1] reader_small_c) t)) (reader_small_e base)))))) t H d)) ((blockK 0 ((seqK (fun _ t => reader_small_C base (cAt [1, 1, 1] reader_small_c) (reader_small_e base) (trimA reader_small_ks (cAt [1, 1, 1] reader_small_c) t)) (reader_small_e base))))))) [(3, t3), (8, t8), (9, t9), (10, t10)] H []
theorem reader_small_j2_eq (base : Nat) (t3 t8 t9 t10 : V) (H : Heap) : reader_small_j2 base t3 t8 t9 t10 H =
 bnd (oBin .add 6 t10 (.int .i64 1)) fun v15 =>
 reader_small_l1 base t3 t8 t9 v15 H := by kernel_rfl
theorem reader_small_l1_eq (base : Nat) (t3 t8 t9 t10 : V) (H : Heap) : reader_small_l1 base t3 t8 t9 t10 H =
 bnd (oBin .lss 6 t10 t9) fun v3 =>
 cnd v3
 (bnd (oIndexPtr 1 t8 t10) fun v4 =>
 bnd (oLoad false 1 H v4) fun v5 =>
 bnd (oBin .geq 6 v5 (.int .u8 65)) fun v6 =>
 bnd (gua v6 true (oMove v5) (some (.tup []))) fun v7 =>
 bnd (gua v6 true (oBin .leq 6 v7 (.int .u8 90)) (some (.tup []))) fun v8 =>
 bnd (oPick v6 v8 (.bool false)) fun v9 =>
 cnd v9
 (bnd (oBin .add 6 v5 (.int .u8 97)) fun v10 =>
 bnd (oBin .sub 6 v10 (.int .u8 65)) fun v11 =>
 bnd (oIndexPtr 1 t3 t10) fun v12 =>
 beff (oStore base 1 H v12 v11) fun v13 h14 =>
 reader_small_j2 base t3 t8 t9 t10 h14)
 (reader_small_j2 base t3 t8 t9 t10 H))
 (bnd (oText H t3) fun v16 =>
 rt false base v16 H) := (loop_eq (cAt [1, 1, 0, 1, 0, 0] reader_small_c) ((blockK 0 ((seqK (fun _ t => reader_small_C base (cAt [1, 1, 1] reader_small_c) (reader_small_e base) (trimA reader_small_ks (cAt [1, 1, 1] reader_small_c) t)) (reader_small_e base))))) _ H []).trans (by kernel_rfl)
def reader_small (base : Nat) (t0 : V) (H : Heap) : Option (Out × Heap) := reader_small_C base reader_small_c (reader_small_e base) [(0, t0)] H []
theorem reader_small_eq (base : Nat) (t0 : V) (H : Heap) : reader_small base t0 H =
 beff (oBytes t0 H) fun v0 h1 =>
 bnd (oLenSl v0) fun v2 =>
 reader_small_l1 base v0 v0 v2 (.int .i64 0) h1 := by kernel_rfl
theorem reader_small_E (t0 : V) (H : Heap) : E n_reader_small [t0] H = reader_small H.length t0 H := (EV_at Try.func51 (by kernel_rfl) (by kernel_rfl) (by kernel_rfl)).trans (by kernel_rfl)

def reader_reader_row_c : Code := bodyOf Try.f52
def reader_reader_row_ks : Ks := [(2, [0, 1, 4, 5])]
def reader_reader_row_e (base : Nat) : KC (Out × Heap) := xEnd Try.prog D false base 35 Try.f52.results.toList
def reader_reader_row_C (base : Nat) (c : Code) (k : KC (Out × Heap)) (t : Ts) (H : Heap) (d : Ds) : Option (Out × Heap) := xC Try.prog base true reader_reader_row_ks E 35 c k t H d
def reader_reader_row_l1 (base : Nat) (t0 t1 t4 t5 : V) (H : Heap) : Option (Out × Heap) :=
iterL (fun t H d again => reader_reader_row_C base (cAt [1, 1, 0, 0] reader_reader_row_c) (loopK reader_reader_row_ks (cAt [1, 1, 0, 0] reader_reader_row_c) again ((blockK 0 (reader_reader_row_e base)))) t H d) [(0, t0), (1, t1), (4, t4), (5, t5)] H []
theorem reader_reader_row_l1_eq (base : Nat) (t0 t1 t4 t5 : V) (H : Heap) : reader_reader_row_l1 base t0 t1 t4 t5 H =
 bnd (oNil t0) fun v6 =>
 bnd (oFieldPtr v6 0) fun v7 =>
 bnd (oLoad false 1 H v7) fun v8 =>
 bcall (E n_reader_reader_room [t0] H) (fun v9 h10 =>
 bnd (oUn .not v9) fun v11 =>
 bnd (gua v11 false (oMove t0) (some (.tup []))) fun v12 =>
 bcall (gua v11 false (E n_reader_reader_begins [v12] h10) (some (.ret (.tup []), h10))) (fun v13 h14 =>
 bnd (gua v11 false (oUn .not v13) (some (.tup []))) fun v15 =>
 bnd (oPick v11 (.bool true) v15) fun v16 =>
 cnd v16
 (bnd (oNil t0) fun v17 =>
 bnd (oFieldPtr v17 0) fun v18 =>
 beff (oStore base 1 h14 v18 v8) fun v19 h20 =>
 bcall (E n_reader_some [(.int .i64 2), t5] h20) (fun v21 h22 =>
 beff (oStore base 6 h22 t4 v21) fun v23 h24 =>
 bnd (oLoad true 6 h24 t4) fun v25 =>
 rt false base v25 h24)
 (fun v21 h22 => pn false base v21 h22))
 (bcall (E n_reader_reader_repeated [t0, t1] h14) (fun v26 h27 =>
 bnd (oLit 6 1 (.agg [(.int .i64 0), (.str []), (.vs []), (.int .i64 0), (.int .i64 0), (.vs [])]) [(0, v26)]) fun v28 =>
 beff (oAppend base 6 88 true t5 v28 h27) fun v29 h30 =>
 reader_reader_row_l1 base t0 t1 t4 v29 h30)
 (fun v26 h27 => pn false base v26 h27)))
 (fun v13 h14 => pn false base v13 h14))
 (fun v9 h10 => pn false base v9 h10) := (loop_eq (cAt [1, 1, 0, 0] reader_reader_row_c) ((blockK 0 (reader_reader_row_e base))) _ H []).trans (by kernel_rfl)
def reader_reader_row (base : Nat) (t0 t1 : V) (H : Heap) : Option (Out × Heap) := reader_reader_row_C base reader_reader_row_c (reader_reader_row_e base) [(0, t0), (1, t1)] H []
theorem reader_reader_row_eq (base : Nat) (t0 t1 : V) (H : Heap) : reader_reader_row base t0 t1 H =
 beff (oVar H (.agg [(.int .i64 0), (.str []), .nils, (.int .i64 0), (.int .i64 0), .nils])) fun v0 h1 =>
 bcall (E n_reader_reader_repeated [t0, t1] h1) (fun v2 h3 =>
 beff (oRow 1 6 true [(.int .i64 0), (.str []), .nils, (.int .i64 0), (.int .i64 0), .nils] h3 [(0, v2)]) fun v4 h5 =>
 reader_reader_row_l1 base t0 t1 v0 v4 h5)
 (fun v2 h3 => pn false base v2 h3) := by kernel_rfl
theorem reader_reader_row_E (t0 t1 : V) (H : Heap) : E n_reader_reader_row [t0, t1] H = reader_reader_row H.length t0 t1 H := (EV_at Try.func52 (by kernel_rfl) (by kernel_rfl) (by kernel_rfl)).trans (by kernel_rfl)

def reader_some_c : Code := bodyOf Try.f53
def reader_some_ks : Ks := []
def reader_some_e (base : Nat) : KC (Out × Heap) := xEnd Try.prog D false base 14 Try.f53.results.toList
def reader_some_C (base : Nat) (c : Code) (k : KC (Out × Heap)) (t : Ts) (H : Heap) (d : Ds) : Option (Out × Heap) := xC Try.prog base false reader_some_ks E 14 c k t H d
def reader_some (base : Nat) (t0 t1 : V) (H : Heap) : Option (Out × Heap) := reader_some_C base reader_some_c (reader_some_e base) [(0, t0), (1, t1)] H []
theorem reader_some_eq (base : Nat) (t0 t1 : V) (H : Heap) : reader_some base t0 t1 H =
 beff (oVar H (.agg [(.int .i64 0), (.str []), .nils, (.int .i64 0), (.int .i64 0), .nils])) fun v0 h1 =>
 bnd (oLenSl t1) fun v2 =>
 bnd (oBin .eql 6 v2 (.int .i64 1)) fun v3 =>
 cnd v3
 (bnd (oIndexPtr 6 t1 (.int .i64 0)) fun v4 =>
 bnd (oLoad true 6 h1 v4) fun v5 =>
 beff (oStore base 6 h1 v0 v5) fun v6 h7 =>
 bnd (oLoad true 6 h7 v0) fun v8 =>
 rt false base v8 h7)
 (bnd (oBuild [(.int .i64 0), (.str []), .nils, (.int .i64 0), (.int .i64 0), .nils] [(0, 1), (1, 1), (2, 1), (3, 1), (4, 1), (5, 1)] [(0, t0), (5, t1)]) fun v9 =>
 beff (oStore base 6 h1 v0 v9) fun v10 h11 =>
 bnd (oLoad true 6 h11 v0) fun v12 =>
 rt false base v12 h11) := by kernel_rfl
theorem reader_some_E (t0 t1 : V) (H : Heap) : E n_reader_some [t0, t1] H = reader_some H.length t0 t1 H := (EV_at Try.func53 (by kernel_rfl) (by kernel_rfl) (by kernel_rfl)).trans (by kernel_rfl)

def ref03_reader_repeat_c : Code := bodyOf Try.f54
def ref03_reader_repeat_ks : Ks := [(7, [0, 1, 4, 5, 6, 7]), (13, [4, 5, 6, 8])]
def ref03_reader_repeat_e (base : Nat) : KC (Out × Heap) := xEnd Try.prog D false base 51 Try.f54.results.toList
def ref03_reader_repeat_C (base : Nat) (c : Code) (k : KC (Out × Heap)) (t : Ts) (H : Heap) (d : Ds) : Option (Out × Heap) := xC Try.prog base false ref03_reader_repeat_ks E 51 c k t H d
def ref03_reader_repeat_j2 (base : Nat) (t4 t5 t6 t8 : V) (H : Heap) : Option (Out × Heap) :=
ref03_reader_repeat_C base (cAt [1, 1, 1, 1, 1, 1, 1, 1, 1] ref03_reader_repeat_c) (ref03_reader_repeat_e base) [(4, t4), (5, t5), (6, t6), (8, t8)] H []
theorem ref03_reader_repeat_j2_eq (base : Nat) (t4 t5 t6 t8 : V) (H : Heap) : ref03_reader_repeat_j2 base t4 t5 t6 t8 H =
 bnd (oLoad true 6 H t8) fun v39 =>
 bnd (oLit 6 1 (.agg [(.int .i64 0), (.str []), (.vs []), (.int .i64 0), (.int .i64 0), (.vs [])]) [(0, v39)]) fun v40 =>
 bnd (oBuild [(.int .i64 0), (.str []), .nils, (.int .i64 0), (.int .i64 0), .nils] [(0, 1), (1, 1), (2, 1), (3, 1), (4, 1), (5, 1)] [(0, (.int .i64 3)), (3, t5), (4, t6), (5, v40)]) fun v41 =>
 beff (oStore base 6 H t4 v41) fun v42 h43 =>
 bnd (oLoad true 6 h43 t4) fun v44 =>
 rt false base v44 h43 := by kernel_rfl
def ref03_reader_repeat_j1 (base : Nat) (t0 t1 t4 t5 t6 t7 : V) (H : Heap) : Option (Out × Heap) :=
ref03_reader_repeat_C base (cAt [1, 1, 1, 1, 1] ref03_reader_repeat_c) (ref03_reader_repeat_e base) [(0, t0), (1, t1), (4, t4), (5, t5), (6, t6), (7, t7)] H []
theorem ref03_reader_repeat_j1_eq (base : Nat) (t0 t1 t4 t5 t6 t7 : V) (H : Heap) : ref03_reader_repeat_j1 base t0 t1 t4 t5 t6 t7 H =
 bcall (E n_ref03_reader_element [t0, t1] H) (fun v17 h18 =>
 beff (oVar h18 (.agg [(.int .i64 0), (.str []), .nils, (.int .i64 0), (.int .i64 0), .nils])) fun v19 h20 =>
 beff (oStore base 6 h20 v19 v17) fun v21 h22 =>
 bnd (oBin .lss 6 t5 (.int .i64 0)) fun v23 =>
 bnd (gua v23 true (oMove t7) (some (.tup []))) fun v24 =>
 bnd (gua v23 true (oUn .not v24) (some (.tup []))) fun v25 =>
 bnd (oPick v23 v25 (.bool false)) fun v26 =>
 cnd v26
 (bnd (oLoad true 6 h22 v19) fun v27 =>
 beff (oStore base 6 h22 t4 v27) fun v28 h29 =>
 bnd (oLoad true 6 h29 t4) fun v30 =>
 rt false base v30 h29)
 (bnd (oMax [t5, (.int .i64 0)]) fun v31 =>
 bnd (oBin .geq 6 t6 (.int .i64 0)) fun v32 =>
 bnd (gua v32 true (oMove t6) (some (.tup []))) fun v33 =>
 bnd (gua v32 true (oMove v31) (some (.tup []))) fun v34 =>
 bnd (gua v32 true (oBin .lss 6 v33 v34) (some (.tup []))) fun v35 =>
 bnd (oPick v32 v35 (.bool false)) fun v36 =>
 cnd v36
 (bcall (E n_ref03_reader_fail [t0, (.int .i64 20)] h22) (fun v37 h38 =>
 ref03_reader_repeat_j2 base t4 v31 t6 v19 h38)
 (fun v37 h38 => pn false base v37 h38))
 (ref03_reader_repeat_j2 base t4 v31 t6 v19 h22)))
 (fun v17 h18 => pn false base v17 h18) := by kernel_rfl
def ref03_reader_repeat (base : Nat) (t0 t1 : V) (H : Heap) : Option (Out × Heap) := ref03_reader_repeat_C base ref03_reader_repeat_c (ref03_reader_repeat_e base) [(0, t0), (1, t1)] H []
theorem ref03_reader_repeat_eq (base : Nat) (t0 t1 : V) (H : Heap) : ref03_reader_repeat base t0 t1 H =
 beff (oVar H (.agg [(.int .i64 0), (.str []), .nils, (.int .i64 0), (.int .i64 0), .nils])) fun v0 h1 =>
 bcall (E n_ref03_reader_number [t0, (.int .i64 10), (.int .i64 200)] h1) (fun v2 h3 =>
 bcall (E n_ref03_reader_at [t0, (.int .i64 0)] h3) (fun v4 h5 =>
 bnd (oBin .eql 6 v4 (.int .i64 42)) fun v6 =>
 cnd v6
 (bnd (oNil t0) fun v7 =>
 bnd (oFieldPtr v7 1) fun v8 =>
 bnd (oLoad false 1 h5 v8) fun v9 =>
 bnd (oBin .add 6 v9 (.int .i64 1)) fun v10 =>
 bnd (oNil t0) fun v11 =>
 bnd (oFieldPtr v11 1) fun v12 =>
 beff (oStore base 1 h5 v12 v10) fun v13 h14 =>
 bcall (E n_ref03_reader_number [t0, (.int .i64 10), (.int .i64 200)] h14) (fun v15 h16 =>
 ref03_reader_repeat_j1 base t0 t1 v0 v2 v15 v6 h16)
 (fun v15 h16 => pn false base v15 h16))
 (ref03_reader_repeat_j1 base t0 t1 v0 v2 v2 v6 h5))
 (fun v4 h5 => pn false base v4 h5))
 (fun v2 h3 => pn false base v2 h3) := by kernel_rfl
theorem ref03_reader_repeat_E (t0 t1 : V) (H : Heap) : E n_ref03_reader_repeat [t0, t1] H = ref03_reader_repeat H.length t0 t1 H := (EV_at Try.func54 (by kernel_rfl) (by kernel_rfl) (by kernel_rfl)).trans (by kernel_rfl)

def ref03_reader_begins_c : Code := bodyOf Try.f55
def ref03_reader_begins_ks : Ks := []
def ref03_reader_begins_e (base : Nat) : KC (Out × Heap) := xEnd Try.prog D false base 32 Try.f55.results.toList
def ref03_reader_begins_C (base : Nat) (c : Code) (k : KC (Out × Heap)) (t : Ts) (H : Heap) (d : Ds) : Option (Out × Heap) := xC Try.prog base false ref03_reader_begins_ks E 32 c k t H d
def ref03_reader_begins (base : Nat) (t0 : V) (H : Heap) : Option (Out × Heap) := ref03_reader_begins_C base ref03_reader_begins_c (ref03_reader_begins_e base) [(0, t0)] H []
theorem ref03_reader_begins_eq (base : Nat) (t0 : V) (H : Heap) : ref03_reader_begins base t0 H =
 bcall (E n_ref03_reader_at [t0, (.int .i64 0)] H) (fun v0 h1 =>
 bcall (E n_ref03_alpha [v0] h1) (fun v2 h3 =>
 bnd (gua v2 false (oMove v0) (some (.tup []))) fun v4 =>
 bcall (gua v2 false (E n_ref03_digit [v4] h3) (some (.ret (.tup []), h3))) (fun v5 h6 =>
 bnd (oPick v2 (.bool true) v5) fun v7 =>
 bnd (gua v7 false (oMove v0) (some (.tup []))) fun v8 =>
 bnd (gua v7 false (oBin .eql 6 v8 (.int .i64 34)) (some (.tup []))) fun v9 =>
 bnd (oPick v7 (.bool true) v9) fun v10 =>
 bnd (gua v10 false (oMove v0) (some (.tup []))) fun v11 =>
 bnd (gua v10 false (oBin .eql 6 v11 (.int .i64 37)) (some (.tup []))) fun v12 =>
 bnd (oPick v10 (.bool true) v12) fun v13 =>
 bnd (gua v13 false (oMove v0) (some (.tup []))) fun v14 =>
 bnd (gua v13 false (oBin .eql 6 v14 (.int .i64 40)) (some (.tup []))) fun v15 =>
 bnd (oPick v13 (.bool true) v15) fun v16 =>
 bnd (gua v16 false (oMove v0) (some (.tup []))) fun v17 =>
 bnd (gua v16 false (oBin .eql 6 v17 (.int .i64 42)) (some (.tup []))) fun v18 =>
 bnd (oPick v16 (.bool true) v18) fun v19 =>
 bnd (gua v19 false (oMove v0) (some (.tup []))) fun v20 =>
 bnd (gua v19 false (oBin .eql 6 v20 (.int .i64 91)) (some (.tup []))) fun v21 =>
 bnd (oPick v19 (.bool true) v21) fun v22 =>
 rt false base v22 h6)
 (fun v5 h6 => pn false base v5 h6))
 (fun v2 h3 => pn false base v2 h3))
 (fun v0 h1 => pn false base v0 h1) := by kernel_rfl
theorem ref03_reader_begins_E (t0 : V) (H : Heap) : E n_ref03_reader_begins [t0] H = ref03_reader_begins H.length t0 H := (EV_at Try.func55 (by kernel_rfl) (by kernel_rfl) (by kernel_rfl)).trans (by kernel_rfl)

def reader_reader_repeated_c : Code := bodyOf Try.f56
def reader_reader_repeated_ks : Ks := [(6, [0, 1, 4, 5, 6, 7, 8, 9]), (11, [4, 5, 7, 10])]
def reader_reader_repeated_e (base : Nat) : KC (Out × Heap) := xEnd Try.prog D false base 51 Try.f56.results.toList
def reader_reader_repeated_C (base : Nat) (c : Code) (k : KC (Out × Heap)) (t : Ts) (H : Heap) (d : Ds) : Option (Out × Heap) := xC Try.prog base false reader_reader_repeated_ks E 51 c k t H d
def reader_reader_repeated_j2 (base : Nat) (t4 t5 t7 t10 : V) (H : Heap) : Option (Out × Heap) :=
reader_reader_repeated_C base (cAt [1, 1, 1, 1, 1, 1, 1, 1] reader_reader_repeated_c) (reader_reader_repeated_e base) [(4, t4), (5, t5), (7, t7), (10, t10)] H []
theorem reader_reader_repeated_j2_eq (base : Nat) (t4 t5 t7 t10 : V) (H : Heap) : reader_reader_repeated_j2 base t4 t5 t7 t10 H =
 bnd (oBin .lss 6 t7 (.int .i64 0)) fun v27 =>
 bnd (gua v27 false (oMove t7) (some (.tup []))) fun v28 =>
 bnd (gua v27 false (oMove t5) (some (.tup []))) fun v29 =>
 bnd (gua v27 false (oBin .geq 6 v28 v29) (some (.tup []))) fun v30 =>
 bnd (oPick v27 (.bool true) v30) fun v31 =>
 bcall (E n_reader_want [v31, (.int .i64 20)] H) (fun v32 h33 =>
 bnd (oLoad true 6 h33 t10) fun v34 =>
 bnd (oLit 6 1 (.agg [(.int .i64 0), (.str []), (.vs []), (.int .i64 0), (.int .i64 0), (.vs [])]) [(0, v34)]) fun v35 =>
 bnd (oBuild [(.int .i64 0), (.str []), .nils, (.int .i64 0), (.int .i64 0), .nils] [(0, 1), (1, 1), (2, 1), (3, 1), (4, 1), (5, 1)] [(0, (.int .i64 3)), (3, t5), (4, t7), (5, v35)]) fun v36 =>
 beff (oStore base 6 h33 t4 v36) fun v37 h38 =>
 bnd (oLoad true 6 h38 t4) fun v39 =>
 rt false base v39 h38)
 (fun v32 h33 => pn false base v32 h33) := by kernel_rfl
def reader_reader_repeated_j1 (base : Nat) (t0 t1 t4 t5 t6 t7 t8 t9 : V) (H : Heap) : Option (Out × Heap) :=
reader_reader_repeated_C base (cAt [1, 1, 1, 1, 1] reader_reader_repeated_c) (reader_reader_repeated_e base) [(0, t0), (1, t1), (4, t4), (5, t5), (6, t6), (7, t7), (8, t8), (9, t9)] H []
theorem reader_reader_repeated_j1_eq (base : Nat) (t0 t1 t4 t5 t6 t7 t8 t9 : V) (H : Heap) : reader_reader_repeated_j1 base t0 t1 t4 t5 t6 t7 t8 t9 H =
 bcall (E n_reader_reader_element [t0, t1] H) (fun v12 h13 =>
 beff (oVar h13 (.agg [(.int .i64 0), (.str []), .nils, (.int .i64 0), (.int .i64 0), .nils])) fun v14 h15 =>
 beff (oStore base 6 h15 v14 v12) fun v16 h17 =>
 bnd (oUn .not t6) fun v18 =>
 bnd (gua v18 true (oMove t9) (some (.tup []))) fun v19 =>
 bnd (gua v18 true (oUn .not v19) (some (.tup []))) fun v20 =>
 bnd (oPick v18 v20 (.bool false)) fun v21 =>
 cnd v21
 (bnd (oLoad true 6 h17 v14) fun v22 =>
 beff (oStore base 6 h17 t4 v22) fun v23 h24 =>
 bnd (oLoad true 6 h24 t4) fun v25 =>
 rt false base v25 h24)
 (bnd (oUn .not t8) fun v26 =>
 cnd v26
 (reader_reader_repeated_j2 base t4 t5 (.int .i64 (-1)) v14 h17)
 (reader_reader_repeated_j2 base t4 t5 t7 v14 h17)))
 (fun v12 h13 => pn false base v12 h13) := by kernel_rfl
def reader_reader_repeated (base : Nat) (t0 t1 : V) (H : Heap) : Option (Out × Heap) := reader_reader_repeated_C base reader_reader_repeated_c (reader_reader_repeated_e base) [(0, t0), (1, t1)] H []
theorem reader_reader_repeated_eq (base : Nat) (t0 t1 : V) (H : Heap) : reader_reader_repeated base t0 t1 H =
 beff (oVar H (.agg [(.int .i64 0), (.str []), .nils, (.int .i64 0), (.int .i64 0), .nils])) fun v0 h1 =>
 bcall (E n_reader_reader_number [t0, (.int .i64 10), (.int .i64 200)] h1) (fun v2 h3 =>
 bnd (oExtract v2 0) fun v4 =>
 bnd (oExtract v2 1) fun v5 =>
 bcall (E n_reader_reader_take [t0, (.int .u8 42)] h3) (fun v6 h7 =>
 cnd v6
 (bcall (E n_reader_reader_number [t0, (.int .i64 10), (.int .i64 200)] h7) (fun v8 h9 =>
 bnd (oExtract v8 0) fun v10 =>
 bnd (oExtract v8 1) fun v11 =>
 reader_reader_repeated_j1 base t0 t1 v0 v4 v5 v10 v11 v6 h9)
 (fun v8 h9 => pn false base v8 h9))
 (reader_reader_repeated_j1 base t0 t1 v0 v4 v5 v4 v5 v6 h7))
 (fun v6 h7 => pn false base v6 h7))
 (fun v2 h3 => pn false base v2 h3) := by kernel_rfl
theorem reader_reader_repeated_E (t0 t1 : V) (H : Heap) : E n_reader_reader_repeated [t0, t1] H = reader_reader_repeated H.length t0 t1 H := (EV_at Try.func56 (by kernel_rfl) (by kernel_rfl) (by kernel_rfl)).trans (by kernel_rfl)

def reader_reader_begins_c : Code := bodyOf Try.f57
def reader_reader_begins_ks : Ks := []
def reader_reader_begins_e (base : Nat) : KC (Out × Heap) := xEnd Try.prog D false base 33 Try.f57.results.toList
def reader_reader_begins_C (base : Nat) (c : Code) (k : KC (Out × Heap)) (t : Ts) (H : Heap) (d : Ds) : Option (Out × Heap) := xC Try.prog base false reader_reader_begins_ks E 33 c k t H d
def reader_reader_begins (base : Nat) (t0 : V) (H : Heap) : Option (Out × Heap) := reader_reader_begins_C base reader_reader_begins_c (reader_reader_begins_e base) [(0, t0)] H []
theorem reader_reader_begins_eq (base : Nat) (t0 : V) (H : Heap) : reader_reader_begins base t0 H =
 bnd (oNil t0) fun v0 =>
 bnd (oFieldPtr v0 0) fun v1 =>
 bnd (oLoad false 1 H v1) fun v2 =>
 bnd (oBin .neq 6 v2 (.str [])) fun v3 =>
 bnd (gua v3 true (oMove t0) (some (.tup []))) fun v4 =>
 bnd (gua v3 true (oNil v4) (some (.tup []))) fun v5 =>
 bnd (gua v3 true (oFieldPtr v5 0) (some (.tup []))) fun v6 =>
 bnd (gua v3 true (oLoad false 1 H v6) (some (.tup []))) fun v7 =>
 bnd (gua v3 true (oIndexStr v7 (.int .i64 0)) (some (.tup []))) fun v8 =>
 bcall (gua v3 true (E n_reader_isLetter [v8] H) (some (.ret (.tup []), H))) (fun v9 h10 =>
 bnd (gua v3 true (oMove v9) (some (.tup []))) fun v11 =>
 bnd (gua v11 false (oMove t0) (some (.tup []))) fun v12 =>
 bnd (gua v11 false (oNil v12) (some (.tup []))) fun v13 =>
 bnd (gua v11 false (oFieldPtr v13 0) (some (.tup []))) fun v14 =>
 bnd (gua v11 false (oLoad false 1 h10 v14) (some (.tup []))) fun v15 =>
 bnd (gua v11 false (oIndexStr v15 (.int .i64 0)) (some (.tup []))) fun v16 =>
 bcall (gua v11 false (E n_reader_isDigit [v16] h10) (some (.ret (.tup []), h10))) (fun v17 h18 =>
 bnd (gua v3 true (oPick v11 (.bool true) v17) (some (.tup []))) fun v19 =>
 bnd (gua v3 true (oMove v19) (some (.tup []))) fun v20 =>
 bnd (gua v20 false (oMove t0) (some (.tup []))) fun v21 =>
 bnd (gua v20 false (oNil v21) (some (.tup []))) fun v22 =>
 bnd (gua v20 false (oFieldPtr v22 0) (some (.tup []))) fun v23 =>
 bnd (gua v20 false (oLoad false 1 h18 v23) (some (.tup []))) fun v24 =>
 bnd (gua v20 false (oIndexStr v24 (.int .i64 0)) (some (.tup []))) fun v25 =>
 bcall (gua v20 false (E n_strings_IndexByte [(.str [34, 37, 40, 42, 91]), v25] h18) (some (.ret (.tup []), h18))) (fun v26 h27 =>
 bnd (gua v20 false (oBin .geq 6 v26 (.int .i64 0)) (some (.tup []))) fun v28 =>
 bnd (gua v3 true (oPick v20 (.bool true) v28) (some (.tup []))) fun v29 =>
 bnd (oPick v3 v29 (.bool false)) fun v30 =>
 rt false base v30 h27)
 (fun v26 h27 => pn false base v26 h27))
 (fun v17 h18 => pn false base v17 h18))
 (fun v9 h10 => pn false base v9 h10) := by kernel_rfl
theorem reader_reader_begins_E (t0 : V) (H : Heap) : E n_reader_reader_begins [t0] H = reader_reader_begins H.length t0 H := (EV_at Try.func57 (by kernel_rfl) (by kernel_rfl) (by kernel_rfl)).trans (by kernel_rfl)

def ref03_reader_number_c : Code := bodyOf Try.f58
def ref03_reader_number_ks : Ks := [(2, [0, 1, 2, 7]), (9, [0, 1, 2, 7, 9]), (14, [0, 1, 2, 7])]
def ref03_reader_number_e (base : Nat) : KC (Out × Heap) := xEnd Try.prog D false base 55 Try.f58.results.toList
def ref03_reader_number_C (base : Nat) (c : Code) (k : KC (Out × Heap)) (t : Ts) (H : Heap) (d : Ds) : Option (Out × Heap) := xC Try.prog base false ref03_reader_number_ks E 55 c k t H d
def ref03_reader_number_l1 (base : Nat) (t0 t1 t2 t7 : V) (H : Heap) : Option (Out × Heap) :=
iterL (fun t H d again => ref03_reader_number_C base (cAt [1, 1, 0, 0, 0] ref03_reader_number_c) (loopK ref03_reader_number_ks (cAt [1, 1, 0, 0, 0] ref03_reader_number_c) again ((blockK 0 ((seqK (fun _ t => ref03_reader_number_C base (cAt [1, 1, 1] ref03_reader_number_c) (ref03_reader_number_e base) (trimA ref03_reader_number_ks (cAt [1, 1, 1] ref03_reader_number_c) t)) (ref03_reader_number_e base)))))) t H d) [(0, t0), (1, t1), (2, t2), (7, t7)] H []
def ref03_reader_number_j3 (base : Nat) (t0 t1 t2 t7 : V) (H : Heap) : Option (Out × Heap) :=
ref03_reader_number_C base (cAt [1, 1, 0, 0, 0, 1, 0, 1, 1, 1, 1, 1, 1] ref03_reader_number_c) ((blockK 1 ((loopK ref03_reader_number_ks (cAt [1, 1, 0, 0, 0] ref03_reader_number_c) (iterL (fun t H d again => ref03_reader_number_C base (cAt [1, 1, 0, 0, 0] ref03_reader_number_c) (loopK ref03_reader_number_ks (cAt [1, 1, 0, 0, 0] ref03_reader_number_c) again ((blockK 0 ((seqK (fun _ t => ref03_reader_number_C base (cAt [1, 1, 1] ref03_reader_number_c) (ref03_reader_number_e base) (trimA ref03_reader_number_ks (cAt [1, 1, 1] ref03_reader_number_c) t)) (ref03_reader_number_e base)))))) t H d)) ((blockK 0 ((seqK (fun _ t => ref03_reader_number_C base (cAt [1, 1, 1] ref03_reader_number_c) (ref03_reader_number_e base) (trimA ref03_reader_number_ks (cAt [1, 1, 1] ref03_reader_number_c) t)) (ref03_reader_number_e base))))))))) [(0, t0), (1, t1), (2, t2), (7, t7)] H []
theorem ref03_reader_number_j3_eq (base : Nat) (t0 t1 t2 t7 : V) (H : Heap) : ref03_reader_number_j3 base t0 t1 t2 t7 H =
 bnd (oNil t0) fun v16 =>
 bnd (oFieldPtr v16 1) fun v17 =>
 bnd (oLoad false 1 H v17) fun v18 =>
 bnd (oBin .add 6 v18 (.int .i64 1)) fun v19 =>
 bnd (oNil t0) fun v20 =>
 bnd (oFieldPtr v20 1) fun v21 =>
 beff (oStore base 1 H v21 v19) fun v22 h23 =>
 ref03_reader_number_l1 base t0 t1 t2 t7 h23 := by kernel_rfl
def ref03_reader_number_j2 (base : Nat) (t0 t1 t2 t7 t9 : V) (H : Heap) : Option (Out × Heap) :=
ref03_reader_number_C base (cAt [1, 1, 0, 0, 0, 1, 0, 1, 1, 1] ref03_reader_number_c) ((blockK 1 ((loopK ref03_reader_number_ks (cAt [1, 1, 0, 0, 0] ref03_reader_number_c) (iterL (fun t H d again => ref03_reader_number_C base (cAt [1, 1, 0, 0, 0] ref03_reader_number_c) (loopK ref03_reader_number_ks (cAt [1, 1, 0, 0, 0] ref03_reader_number_c) again ((blockK 0 ((seqK (fun _ t => ref03_reader_number_C base (cAt [1, 1, 1] ref03_reader_number_c) (ref03_reader_number_e base) (trimA ref03_reader_number_ks (cAt [1, 1, 1] ref03_reader_number_c) t)) (ref03_reader_number_e base)))))) t H d)) ((blockK 0 ((seqK (fun _ t => ref03_reader_number_C base (cAt [1, 1, 1] ref03_reader_number_c) (ref03_reader_number_e base) (trimA ref03_reader_number_ks (cAt [1, 1, 1] ref03_reader_number_c) t)) (ref03_reader_number_e base))))))))) [(0, t0), (1, t1), (2, t2), (7, t7), (9, t9)] H []
theorem ref03_reader_number_j2_eq (base : Nat) (t0 t1 t2 t7 t9 : V) (H : Heap) : ref03_reader_number_j2 base t0 t1 t2 t7 t9 H =
 bnd (oBin .geq 6 t9 t1) fun v9 =>
 cnd v9
 (rt false base t7 H)
 (bnd (oMax [t7, (.int .i64 0)]) fun v10 =>
 bnd (oBin .mul 6 v10 t1) fun v11 =>
 bnd (oBin .add 6 v11 t9) fun v12 =>
 bnd (oBin .gtr 6 v12 t2) fun v13 =>
 cnd v13
 (bcall (E n_ref03_reader_fail [t0, (.int .i64 2)] H) (fun v14 h15 =>
 ref03_reader_number_j3 base t0 t1 t2 v12 h15)
 (fun v14 h15 => pn false base v14 h15))
 (ref03_reader_number_j3 base t0 t1 t2 v12 H)) := by kernel_rfl
theorem ref03_reader_number_l1_eq (base : Nat) (t0 t1 t2 t7 : V) (H : Heap) : ref03_reader_number_l1 base t0 t1 t2 t7 H =
 bnd (oNil t0) fun v0 =>
 bnd (oFieldPtr v0 2) fun v1 =>
 bnd (oLoad false 1 H v1) fun v2 =>
 bnd (oBin .eql 6 v2 (.int .i64 0)) fun v3 =>
 cnd v3
 (bcall (E n_ref03_reader_at [t0, (.int .i64 0)] H) (fun v4 h5 =>
 bcall (E n_ref03_digit [v4] h5) (fun v6 h7 =>
 cnd v6
 (bnd (oBin .sub 6 v4 (.int .i64 48)) fun v8 =>
 ref03_reader_number_j2 base t0 t1 t2 t7 v8 h7)
 (bcall (E n_ref03_alpha [v4] h7) (fun v24 h25 =>
 bnd (gua v24 true (oMove v4) (some (.tup []))) fun v26 =>
 bnd (gua v24 true (oBin .or 6 v26 (.int .i64 32)) (some (.tup []))) fun v27 =>
 bnd (gua v24 true (oBin .leq 6 v27 (.int .i64 102)) (some (.tup []))) fun v28 =>
 bnd (oPick v24 v28 (.bool false)) fun v29 =>
 cnd v29
 (bnd (oBin .or 6 v4 (.int .i64 32)) fun v30 =>
 bnd (oBin .sub 6 v30 (.int .i64 87)) fun v31 =>
 ref03_reader_number_j2 base t0 t1 t2 t7 v31 h25)
 (ref03_reader_number_j2 base t0 t1 t2 t7 (.int .i64 99) h25))
 (fun v24 h25 => pn false base v24 h25)))
 (fun v6 h7 => pn false base v6 h7))
 (fun v4 h5 => pn false base v4 h5))
 (rt false base (.int .i64 (-1)) H) := (loop_eq (cAt [1, 1, 0, 0, 0] ref03_reader_number_c) ((blockK 0 ((seqK (fun _ t => ref03_reader_number_C base (cAt [1, 1, 1] ref03_reader_number_c) (ref03_reader_number_e base) (trimA ref03_reader_number_ks (cAt [1, 1, 1] ref03_reader_number_c) t)) (ref03_reader_number_e base))))) _ H []).trans (by kernel_rfl)
def ref03_reader_number (base : Nat) (t0 t1 t2 : V) (H : Heap) : Option (Out × Heap) := ref03_reader_number_C base ref03_reader_number_c (ref03_reader_number_e base) [(0, t0), (1, t1), (2, t2)] H []
theorem ref03_reader_number_eq (base : Nat) (t0 t1 t2 : V) (H : Heap) : ref03_reader_number base t0 t1 t2 H =
 ref03_reader_number_l1 base t0 t1 t2 (.int .i64 (-1)) H := by kernel_rfl
theorem ref03_reader_number_E (t0 t1 t2 : V) (H : Heap) : E n_ref03_reader_number [t0, t1, t2] H = ref03_reader_number H.length t0 t1 t2 H := (EV_at Try.func58 (by kernel_rfl) (by kernel_rfl) (by kernel_rfl)).trans (by kernel_rfl)

def ref03_reader_element_c : Code := bodyOf Try.f59
def ref03_reader_element_ks : Ks := []
def ref03_reader_element_e (base : Nat) : KC (Out × Heap) := xEnd Try.prog D false base 42 Try.f59.results.toList
def ref03_reader_element_C (base : Nat) (c : Code) (k : KC (Out × Heap)) (t : Ts) (H : Heap) (d : Ds) : Option (Out × Heap) := xC Try.prog base false ref03_reader_element_ks E 42 c k t H d
def ref03_reader_element (base : Nat) (t0 t1 : V) (H : Heap) : Option (Out × Heap) := ref03_reader_element_C base ref03_reader_element_c (ref03_reader_element_e base) [(0, t0), (1, t1)] H []
theorem ref03_reader_element_eq (base : Nat) (t0 t1 : V) (H : Heap) : ref03_reader_element base t0 t1 H =
 beff (oVar H (.agg [(.int .i64 0), (.str []), .nils, (.int .i64 0), (.int .i64 0), .nils])) fun v0 h1 =>
 bcall (E n_ref03_reader_at [t0, (.int .i64 0)] h1) (fun v2 h3 =>
 bnd (oNil t0) fun v4 =>
 bnd (oFieldPtr v4 2) fun v5 =>
 bnd (oLoad false 1 h3 v5) fun v6 =>
 bnd (oBin .neq 6 v6 (.int .i64 0)) fun v7 =>
 cnd v7
 (bnd (oBuild [(.int .i64 0), (.str []), .nils, (.int .i64 0), (.int .i64 0), .nils] [(0, 1), (1, 1), (2, 1), (3, 1), (4, 1), (5, 1)] []) fun v8 =>
 beff (oStore base 6 h3 v0 v8) fun v9 h10 =>
 bnd (oLoad true 6 h10 v0) fun v11 =>
 rt false base v11 h10)
 (bnd (oBin .eql 6 v2 (.int .i64 40)) fun v12 =>
 cnd v12
 (bcall (E n_ref03_reader_group [t0, (.int .i64 41), t1] h3) (fun v13 h14 =>
 beff (oStore base 6 h14 v0 v13) fun v15 h16 =>
 bnd (oLoad true 6 h16 v0) fun v17 =>
 rt false base v17 h16)
 (fun v13 h14 => pn false base v13 h14))
 (bnd (oBin .eql 6 v2 (.int .i64 91)) fun v18 =>
 cnd v18
 (bcall (E n_ref03_reader_group [t0, (.int .i64 93), t1] h3) (fun v19 h20 =>
 bnd (oLit 6 1 (.agg [(.int .i64 0), (.str []), (.vs []), (.int .i64 0), (.int .i64 0), (.vs [])]) [(0, v19)]) fun v21 =>
 bnd (oBuild [(.int .i64 0), (.str []), .nils, (.int .i64 0), (.int .i64 0), .nils] [(0, 1), (1, 1), (2, 1), (3, 1), (4, 1), (5, 1)] [(0, (.int .i64 3)), (4, (.int .i64 1)), (5, v21)]) fun v22 =>
 beff (oStore base 6 h20 v0 v22) fun v23 h24 =>
 bnd (oLoad true 6 h24 v0) fun v25 =>
 rt false base v25 h24)
 (fun v19 h20 => pn false base v19 h20))
 (bnd (oBin .eql 6 v2 (.int .i64 34)) fun v26 =>
 cnd v26
 (bcall (E n_ref03_reader_text [t0, (.bool true)] h3) (fun v27 h28 =>
 beff (oStore base 6 h28 v0 v27) fun v29 h30 =>
 bnd (oLoad true 6 h30 v0) fun v31 =>
 rt false base v31 h30)
 (fun v27 h28 => pn false base v27 h28))
 (bnd (oBin .eql 6 v2 (.int .i64 37)) fun v32 =>
 cnd v32
 (bcall (E n_ref03_reader_value [t0] h3) (fun v33 h34 =>
 beff (oStore base 6 h34 v0 v33) fun v35 h36 =>
 bnd (oLoad true 6 h36 v0) fun v37 =>
 rt false base v37 h36)
 (fun v33 h34 => pn false base v33 h34))
 (bcall (E n_ref03_reader_name [t0] h3) (fun v38 h39 =>
 bnd (oBuild [(.int .i64 0), (.str []), .nils, (.int .i64 0), (.int .i64 0), .nils] [(0, 1), (1, 1), (2, 1), (3, 1), (4, 1), (5, 1)] [(0, (.int .i64 4)), (1, v38)]) fun v40 =>
 beff (oStore base 6 h39 v0 v40) fun v41 h42 =>
 bnd (oLoad true 6 h42 v0) fun v43 =>
 rt false base v43 h42)
 (fun v38 h39 => pn false base v38 h39)))))))
 (fun v2 h3 => pn false base v2 h3) := by kernel_rfl
theorem ref03_reader_element_E (t0 t1 : V) (H : Heap) : E n_ref03_reader_element [t0, t1] H = ref03_reader_element H.length t0 t1 H := (EV_at Try.func59 (by kernel_rfl) (by kernel_rfl) (by kernel_rfl)).trans (by kernel_rfl)

def reader_reader_number_c : Code := bodyOf Try.f60
def reader_reader_number_ks : Ks := [(1, [0, 1, 2, 6, 7])]
def reader_reader_number_e (base : Nat) : KC (Out × Heap) := xEnd Try.prog D false base 41 Try.f60.results.toList
def reader_reader_number_C (base : Nat) (c : Code) (k : KC (Out × Heap)) (t : Ts) (H : Heap) (d : Ds) : Option (Out × Heap) := xC Try.prog base false reader_reader_number_ks E 41 c k t H d
def reader_reader_number_l1 (base : Nat) (t0 t1 t2 t6 t7 : V) (H : Heap) : Option (Out × Heap) :=
iterL (fun t H d again => reader_reader_number_C base (cAt [1, 0, 0, 0] reader_reader_number_c) (loopK reader_reader_number_ks (cAt [1, 0, 0, 0] reader_reader_number_c) again ((blockK 0 ((seqK (fun _ t => reader_reader_number_C base (cAt [1, 1] reader_reader_number_c) (reader_reader_number_e base) (trimA reader_reader_number_ks (cAt [1, 1] reader_reader_number_c) t)) (reader_reader_number_e base)))))) t H d) [(0, t0), (1, t1), (2, t2), (6, t6), (7, t7)] H []
theorem reader_reader_number_l1_eq (base : Nat) (t0 t1 t2 t6 t7 : V) (H : Heap) : reader_reader_number_l1 base t0 t1 t2 t6 t7 H =
 bnd (oNil t0) fun v0 =>
 bnd (oFieldPtr v0 0) fun v1 =>
 bnd (oLoad false 1 H v1) fun v2 =>
 bnd (oBin .neq 6 v2 (.str [])) fun v3 =>
 bnd (gua v3 true (oMove t0) (some (.tup []))) fun v4 =>
 bnd (gua v3 true (oNil v4) (some (.tup []))) fun v5 =>
 bnd (gua v3 true (oFieldPtr v5 0) (some (.tup []))) fun v6 =>
 bnd (gua v3 true (oLoad false 1 H v6) (some (.tup []))) fun v7 =>
 bnd (gua v3 true (oIndexStr v7 (.int .i64 0)) (some (.tup []))) fun v8 =>
 bcall (gua v3 true (E n_reader_digit [v8] H) (some (.ret (.tup []), H))) (fun v9 h10 =>
 bnd (gua v3 true (oMove t1) (some (.tup []))) fun v11 =>
 bnd (gua v3 true (oBin .lss 6 v9 v11) (some (.tup []))) fun v12 =>
 bnd (oPick v3 v12 (.bool false)) fun v13 =>
 cnd v13
 (bnd (oBin .mul 6 t6 t1) fun v14 =>
 bnd (oNil t0) fun v15 =>
 bnd (oFieldPtr v15 0) fun v16 =>
 bnd (oLoad false 1 h10 v16) fun v17 =>
 bnd (oIndexStr v17 (.int .i64 0)) fun v18 =>
 bcall (E n_reader_digit [v18] h10) (fun v19 h20 =>
 bnd (oBin .add 6 v14 v19) fun v21 =>
 bnd (oBin .leq 6 v21 t2) fun v22 =>
 bcall (E n_reader_want [v22, (.int .i64 2)] h20) (fun v23 h24 =>
 bcall (E n_reader_reader_cut [t0, (.int .i64 1)] h24) (fun v25 h26 =>
 reader_reader_number_l1 base t0 t1 t2 v21 (.bool true) h26)
 (fun v25 h26 => pn false base v25 h26))
 (fun v23 h24 => pn false base v23 h24))
 (fun v19 h20 => pn false base v19 h20))
 (rt false base (.tup [t6, t7]) h10))
 (fun v9 h10 => pn false base v9 h10) := (loop_eq (cAt [1, 0, 0, 0] reader_reader_number_c) ((blockK 0 ((seqK (fun _ t => reader_reader_number_C base (cAt [1, 1] reader_reader_number_c) (reader_reader_number_e base) (trimA reader_reader_number_ks (cAt [1, 1] reader_reader_number_c) t)) (reader_reader_number_e base))))) _ H []).trans (by kernel_rfl)
def reader_reader_number (base : Nat) (t0 t1 t2 : V) (H : Heap) : Option (Out × Heap) := reader_reader_number_C base reader_reader_number_c (reader_reader_number_e base) [(0, t0), (1, t1), (2, t2)] H []
theorem reader_reader_number_eq (base : Nat) (t0 t1 t2 : V) (H : Heap) : reader_reader_number base t0 t1 t2 H =
 reader_reader_number_l1 base t0 t1 t2 (.int .i64 0) (.bool false) H := by kernel_rfl
theorem reader_reader_number_E (t0 t1 t2 : V) (H : Heap) : E n_reader_reader_number [t0, t1, t2] H = reader_reader_number H.length t0 t1 t2 H := (EV_at Try.func60 (by kernel_rfl) (by kernel_rfl) (by kernel_rfl)).trans (by kernel_rfl)

def reader_reader_element_c : Code := bodyOf Try.f61
def reader_reader_element_ks : Ks := []
def reader_reader_element_e (base : Nat) : KC (Out × Heap) := xEnd Try.prog D false base 33 Try.f61.results.toList
def reader_reader_element_C (base : Nat) (c : Code) (k : KC (Out × Heap)) (t : Ts) (H : Heap) (d : Ds) : Option (Out × Heap) := xC Try.prog base false reader_reader_element_ks E 33 c k t H d
def reader_reader_element (base : Nat) (t0 t1 : V) (H : Heap) : Option (Out × Heap) := reader_reader_element_C base reader_reader_element_c (reader_reader_element_e base) [(0, t0), (1, t1)] H []
theorem reader_reader_element_eq (base : Nat) (t0 t1 : V) (H : Heap) : reader_reader_element base t0 t1 H =
 beff (oVar H (.agg [(.int .i64 0), (.str []), .nils, (.int .i64 0), (.int .i64 0), .nils])) fun v0 h1 =>
 bcall (E n_reader_reader_is [t0, (.int .u8 40)] h1) (fun v2 h3 =>
 cnd v2
 (bcall (E n_reader_reader_group [t0, (.int .u8 41), t1] h3) (fun v4 h5 =>
 beff (oStore base 6 h5 v0 v4) fun v6 h7 =>
 bnd (oLoad true 6 h7 v0) fun v8 =>
 rt false base v8 h7)
 (fun v4 h5 => pn false base v4 h5))
 (bcall (E n_reader_reader_is [t0, (.int .u8 91)] h3) (fun v9 h10 =>
 cnd v9
 (bcall (E n_reader_reader_group [t0, (.int .u8 93), t1] h10) (fun v11 h12 =>
 bnd (oLit 6 1 (.agg [(.int .i64 0), (.str []), (.vs []), (.int .i64 0), (.int .i64 0), (.vs [])]) [(0, v11)]) fun v13 =>
 bnd (oBuild [(.int .i64 0), (.str []), .nils, (.int .i64 0), (.int .i64 0), .nils] [(0, 1), (1, 1), (2, 1), (3, 1), (4, 1), (5, 1)] [(0, (.int .i64 3)), (4, (.int .i64 1)), (5, v13)]) fun v14 =>
 beff (oStore base 6 h12 v0 v14) fun v15 h16 =>
 bnd (oLoad true 6 h16 v0) fun v17 =>
 rt false base v17 h16)
 (fun v11 h12 => pn false base v11 h12))
 (bcall (E n_reader_reader_is [t0, (.int .u8 34)] h10) (fun v18 h19 =>
 cnd v18
 (bcall (E n_reader_reader_quoted [t0] h19) (fun v20 h21 =>
 bcall (E n_reader_fold [v20] h21) (fun v22 h23 =>
 beff (oStore base 6 h23 v0 v22) fun v24 h25 =>
 bnd (oLoad true 6 h25 v0) fun v26 =>
 rt false base v26 h25)
 (fun v22 h23 => pn false base v22 h23))
 (fun v20 h21 => pn false base v20 h21))
 (bcall (E n_reader_reader_is [t0, (.int .u8 37)] h19) (fun v27 h28 =>
 cnd v27
 (bcall (E n_reader_reader_percent [t0] h28) (fun v29 h30 =>
 beff (oStore base 6 h30 v0 v29) fun v31 h32 =>
 bnd (oLoad true 6 h32 v0) fun v33 =>
 rt false base v33 h32)
 (fun v29 h30 => pn false base v29 h30))
 (bcall (E n_reader_reader_name [t0] h28) (fun v34 h35 =>
 bnd (oBuild [(.int .i64 0), (.str []), .nils, (.int .i64 0), (.int .i64 0), .nils] [(0, 1), (1, 1), (2, 1), (3, 1), (4, 1), (5, 1)] [(0, (.int .i64 4)), (1, v34)]) fun v36 =>
 beff (oStore base 6 h35 v0 v36) fun v37 h38 =>
 bnd (oLoad true 6 h38 v0) fun v39 =>
 rt false base v39 h38)
 (fun v34 h35 => pn false base v34 h35)))
 (fun v27 h28 => pn false base v27 h28)))
 (fun v18 h19 => pn false base v18 h19)))
 (fun v9 h10 => pn false base v9 h10)))
 (fun v2 h3 => pn false base v2 h3) := by kernel_rfl
theorem reader_reader_element_E (t0 t1 : V) (H : Heap) : E n_reader_reader_element [t0, t1] H = reader_reader_element H.length t0 t1 H := (EV_at Try.func61 (by kernel_rfl) (by kernel_rfl) (by kernel_rfl)).trans (by kernel_rfl)

def ref03_reader_group_c : Code := bodyOf Try.f63
def ref03_reader_group_ks : Ks := [(4, [0, 1, 2, 6]), (9, [0, 6, 7])]
def ref03_reader_group_e (base : Nat) : KC (Out × Heap) := xEnd Try.prog D false base 41 Try.f63.results.toList
def ref03_reader_group_C (base : Nat) (c : Code) (k : KC (Out × Heap)) (t : Ts) (H : Heap) (d : Ds) : Option (Out × Heap) := xC Try.prog base false ref03_reader_group_ks E 41 c k t H d
def ref03_reader_group_j2 (base : Nat) (t0 t6 t7 : V) (H : Heap) : Option (Out × Heap) :=
ref03_reader_group_C base (cAt [1, 1, 1, 1, 1, 1, 1] ref03_reader_group_c) (ref03_reader_group_e base) [(0, t0), (6, t6), (7, t7)] H []
theorem ref03_reader_group_j2_eq (base : Nat) (t0 t6 t7 : V) (H : Heap) : ref03_reader_group_j2 base t0 t6 t7 H =
 bnd (oNil t0) fun v29 =>
 bnd (oFieldPtr v29 1) fun v30 =>
 bnd (oLoad false 1 H v30) fun v31 =>
 bnd (oBin .add 6 v31 (.int .i64 1)) fun v32 =>
 bnd (oNil t0) fun v33 =>
 bnd (oFieldPtr v33 1) fun v34 =>
 beff (oStore base 1 H v34 v32) fun v35 h36 =>
 bnd (oLoad true 6 h36 t7) fun v37 =>
 beff (oStore base 6 h36 t6 v37) fun v38 h39 =>
 bnd (oLoad true 6 h39 t6) fun v40 =>
 rt false base v40 h39 := by kernel_rfl
def ref03_reader_group_j1 (base : Nat) (t0 t1 t2 t6 : V) (H : Heap) : Option (Out × Heap) :=
ref03_reader_group_C base (cAt [1, 1, 1] ref03_reader_group_c) (ref03_reader_group_e base) [(0, t0), (1, t1), (2, t2), (6, t6)] H []
theorem ref03_reader_group_j1_eq (base : Nat) (t0 t1 t2 t6 : V) (H : Heap) : ref03_reader_group_j1 base t0 t1 t2 t6 H =
 bcall (E n_ref03_reader_skip [t0] H) (fun v13 h14 =>
 bnd (oBin .add 6 t2 (.int .i64 1)) fun v15 =>
 bcall (E n_ref03_reader_alt [t0, v15] h14) (fun v16 h17 =>
 beff (oVar h17 (.agg [(.int .i64 0), (.str []), .nils, (.int .i64 0), (.int .i64 0), .nils])) fun v18 h19 =>
 beff (oStore base 6 h19 v18 v16) fun v20 h21 =>
 bcall (E n_ref03_reader_skip [t0] h21) (fun v22 h23 =>
 bcall (E n_ref03_reader_at [t0, (.int .i64 0)] h23) (fun v24 h25 =>
 bnd (oBin .neq 6 v24 t1) fun v26 =>
 cnd v26
 (bcall (E n_ref03_reader_fail [t0, (.int .i64 20)] h25) (fun v27 h28 =>
 ref03_reader_group_j2 base t0 t6 v18 h28)
 (fun v27 h28 => pn false base v27 h28))
 (ref03_reader_group_j2 base t0 t6 v18 h25))
 (fun v24 h25 => pn false base v24 h25))
 (fun v22 h23 => pn false base v22 h23))
 (fun v16 h17 => pn false base v16 h17))
 (fun v13 h14 => pn false base v13 h14) := by kernel_rfl
def ref03_reader_group (base : Nat) (t0 t1 t2 : V) (H : Heap) : Option (Out × Heap) := ref03_reader_group_C base ref03_reader_group_c (ref03_reader_group_e base) [(0, t0), (1, t1), (2, t2)] H []
theorem ref03_reader_group_eq (base : Nat) (t0 t1 t2 : V) (H : Heap) : ref03_reader_group base t0 t1 t2 H =
 beff (oVar H (.agg [(.int .i64 0), (.str []), .nils, (.int .i64 0), (.int .i64 0), .nils])) fun v0 h1 =>
 bnd (oNil t0) fun v2 =>
 bnd (oFieldPtr v2 1) fun v3 =>
 bnd (oLoad false 1 h1 v3) fun v4 =>
 bnd (oBin .add 6 v4 (.int .i64 1)) fun v5 =>
 bnd (oNil t0) fun v6 =>
 bnd (oFieldPtr v6 1) fun v7 =>
 beff (oStore base 1 h1 v7 v5) fun v8 h9 =>
 bnd (oBin .geq 6 t2 (.int .i64 50)) fun v10 =>
 cnd v10
 (bcall (E n_ref03_reader_fail [t0, (.int .i64 2)] h9) (fun v11 h12 =>
 ref03_reader_group_j1 base t0 t1 t2 v0 h12)
 (fun v11 h12 => pn false base v11 h12))
 (ref03_reader_group_j1 base t0 t1 t2 v0 h9) := by kernel_rfl
theorem ref03_reader_group_E (t0 t1 t2 : V) (H : Heap) : E n_ref03_reader_group [t0, t1, t2] H = ref03_reader_group H.length t0 t1 t2 H := (EV_at Try.func63 (by kernel_rfl) (by kernel_rfl) (by kernel_rfl)).trans (by kernel_rfl)
end
end Go.Proofs.Ytjnnegacjmcdbaa
end

