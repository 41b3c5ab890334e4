/- Fn2: a part of the proof that each law of this seat answers true at every input. No condition. -/
import Derived.Test.YtjnkigaiogjfcaaDoorHint
import Derived.KernelRfl
set_option linter.unusedVariables false
set_option linter.unusedSimpArgs false
set_option maxRecDepth 20000
section
/- Printed: what functions do. -/
namespace Go.Proofs.YtjnkigaiogjfcaaDoor
open Go Go.Ev
set_option linter.unusedVariables false
noncomputable section

def ref07_Text_c : Code := bodyOf Tryd.f23
def ref07_Text_ks : Ks := [(10, [3, 4, 5]), (14, [3, 4, 5]), (11, [3, 4, 5]), (18, [1, 3, 6]), (23, [1, 3, 7]), (27, [1, 3, 7]), (24, [1, 3, 7])]
def ref07_Text_e (base : Nat) : KC (Out × Heap) := xEnd Tryd.prog D false base 100 Tryd.f23.results.toList
def ref07_Text_C (base : Nat) (c : Code) (k : KC (Out × Heap)) (t : Ts) (H : Heap) (d : Ds) : Option (Out × Heap) := xC Tryd.prog base false ref07_Text_ks E 100 c k t H d
def ref07_Text_l1 (base : Nat) (t3 t4 t5 : V) (H : Heap) : Option (Out × Heap) :=
iterL (fun t H d again => ref07_Text_C base (cAt [1, 1, 0, 1, 0, 1, 1, 1, 1, 1, 0, 1, 0, 1, 0, 0] ref07_Text_c) (loopK ref07_Text_ks (cAt [1, 1, 0, 1, 0, 1, 1, 1, 1, 1, 0, 1, 0, 1, 0, 0] ref07_Text_c) again ((blockK 1 ((seqK (fun _ t => ref07_Text_C base (cAt [1, 1, 0, 1, 0, 1, 1, 1, 1, 1, 0, 1, 1] ref07_Text_c) ((blockK 0 ((seqK (fun _ t => ref07_Text_C base (cAt [1, 1, 1] ref07_Text_c) (ref07_Text_e base) (trimA ref07_Text_ks (cAt [1, 1, 1] ref07_Text_c) t)) (ref07_Text_e base))))) (trimA ref07_Text_ks (cAt [1, 1, 0, 1, 0, 1, 1, 1, 1, 1, 0, 1, 1] ref07_Text_c) t)) ((blockK 0 ((seqK (fun _ t => ref07_Text_C base (cAt [1, 1, 1] ref07_Text_c) (ref07_Text_e base) (trimA ref07_Text_ks (cAt [1, 1, 1] ref07_Text_c) t)) (ref07_Text_e base)))))))))) t H d) [(3, t3), (4, t4), (5, t5)] H []
def ref07_Text_j3 (base : Nat) (t3 t4 t5 : V) (H : Heap) : Option (Out × Heap) :=
ref07_Text_C base (cAt [1, 1, 0, 1, 0, 1, 1, 1, 1, 1, 0, 1, 0, 1, 0, 0, 1, 1] ref07_Text_c) ((loopK ref07_Text_ks (cAt [1, 1, 0, 1, 0, 1, 1, 1, 1, 1, 0, 1, 0, 1, 0, 0] ref07_Text_c) (iterL (fun t H d again => ref07_Text_C base (cAt [1, 1, 0, 1, 0, 1, 1, 1, 1, 1, 0, 1, 0, 1, 0, 0] ref07_Text_c) (loopK ref07_Text_ks (cAt [1, 1, 0, 1, 0, 1, 1, 1, 1, 1, 0, 1, 0, 1, 0, 0] ref07_Text_c) again ((blockK 1 ((seqK (fun _ t => ref07_Text_C base (cAt [1, 1, 0, 1, 0, 1, 1, 1, 1, 1, 0, 1, 1] ref07_Text_c) ((blockK 0 ((seqK (fun _ t => ref07_Text_C base (cAt [1, 1, 1] ref07_Text_c) (ref07_Text_e base) (trimA ref07_Text_ks (cAt [1, 1, 1] ref07_Text_c) t)) (ref07_Text_e base))))) (trimA ref07_Text_ks (cAt [1, 1, 0, 1, 0, 1, 1, 1, 1, 1, 0, 1, 1] ref07_Text_c) t)) ((blockK 0 ((seqK (fun _ t => ref07_Text_C base (cAt [1, 1, 1] ref07_Text_c) (ref07_Text_e base) (trimA ref07_Text_ks (cAt [1, 1, 1] ref07_Text_c) t)) (ref07_Text_e base)))))))))) t H d)) ((blockK 1 ((seqK (fun _ t => ref07_Text_C base (cAt [1, 1, 0, 1, 0, 1, 1, 1, 1, 1, 0, 1, 1] ref07_Text_c) ((blockK 0 ((seqK (fun _ t => ref07_Text_C base (cAt [1, 1, 1] ref07_Text_c) (ref07_Text_e base) (trimA ref07_Text_ks (cAt [1, 1, 1] ref07_Text_c) t)) (ref07_Text_e base))))) (trimA ref07_Text_ks (cAt [1, 1, 0, 1, 0, 1, 1, 1, 1, 1, 0, 1, 1] ref07_Text_c) t)) ((blockK 0 ((seqK (fun _ t => ref07_Text_C base (cAt [1, 1, 1] ref07_Text_c) (ref07_Text_e base) (trimA ref07_Text_ks (cAt [1, 1, 1] ref07_Text_c) t)) (ref07_Text_e base))))))))))) [(3, t3), (4, t4), (5, t5)] H []
theorem ref07_Text_j3_eq (base : Nat) (t3 t4 t5 : V) (H : Heap) : ref07_Text_j3 base t3 t4 t5 H =
 bnd (oBin .add 6 t5 (.int .i64 1)) fun v28 =>
 ref07_Text_l1 base t3 t4 v28 H := by kernel_rfl
def ref07_Text_j2 (base : Nat) (t3 t4 t5 : V) (H : Heap) : Option (Out × Heap) :=
ref07_Text_C base (cAt [1, 1, 0, 1, 0, 1, 1, 1, 1, 1, 0, 1, 0, 1, 0, 0, 1, 0, 0, 1] ref07_Text_c) ((blockK 2 ((seqK (fun _ t => ref07_Text_C base (cAt [1, 1, 0, 1, 0, 1, 1, 1, 1, 1, 0, 1, 0, 1, 0, 0, 1, 1] ref07_Text_c) ((loopK ref07_Text_ks (cAt [1, 1, 0, 1, 0, 1, 1, 1, 1, 1, 0, 1, 0, 1, 0, 0] ref07_Text_c) (iterL (fun t H d again => ref07_Text_C base (cAt [1, 1, 0, 1, 0, 1, 1, 1, 1, 1, 0, 1, 0, 1, 0, 0] ref07_Text_c) (loopK ref07_Text_ks (cAt [1, 1, 0, 1, 0, 1, 1, 1, 1, 1, 0, 1, 0, 1, 0, 0] ref07_Text_c) again ((blockK 1 ((seqK (fun _ t => ref07_Text_C base (cAt [1, 1, 0, 1, 0, 1, 1, 1, 1, 1, 0, 1, 1] ref07_Text_c) ((blockK 0 ((seqK (fun _ t => ref07_Text_C base (cAt [1, 1, 1] ref07_Text_c) (ref07_Text_e base) (trimA ref07_Text_ks (cAt [1, 1, 1] ref07_Text_c) t)) (ref07_Text_e base))))) (trimA ref07_Text_ks (cAt [1, 1, 0, 1, 0, 1, 1, 1, 1, 1, 0, 1, 1] ref07_Text_c) t)) ((blockK 0 ((seqK (fun _ t => ref07_Text_C base (cAt [1, 1, 1] ref07_Text_c) (ref07_Text_e base) (trimA ref07_Text_ks (cAt [1, 1, 1] ref07_Text_c) t)) (ref07_Text_e base)))))))))) t H d)) ((blockK 1 ((seqK (fun _ t => ref07_Text_C base (cAt [1, 1, 0, 1, 0, 1, 1, 1, 1, 1, 0, 1, 1] ref07_Text_c) ((blockK 0 ((seqK (fun _ t => ref07_Text_C base (cAt [1, 1, 1] ref07_Text_c) (ref07_Text_e base) (trimA ref07_Text_ks (cAt [1, 1, 1] ref07_Text_c) t)) (ref07_Text_e base))))) (trimA ref07_Text_ks (cAt [1, 1, 0, 1, 0, 1, 1, 1, 1, 1, 0, 1, 1] ref07_Text_c) t)) ((blockK 0 ((seqK (fun _ t => ref07_Text_C base (cAt [1, 1, 1] ref07_Text_c) (ref07_Text_e base) (trimA ref07_Text_ks (cAt [1, 1, 1] ref07_Text_c) t)) (ref07_Text_e base))))))))))) (trimA ref07_Text_ks (cAt [1, 1, 0, 1, 0, 1, 1, 1, 1, 1, 0, 1, 0, 1, 0, 0, 1, 1] ref07_Text_c) t)) ((loopK ref07_Text_ks (cAt [1, 1, 0, 1, 0, 1, 1, 1, 1, 1, 0, 1, 0, 1, 0, 0] ref07_Text_c) (iterL (fun t H d again => ref07_Text_C base (cAt [1, 1, 0, 1, 0, 1, 1, 1, 1, 1, 0, 1, 0, 1, 0, 0] ref07_Text_c) (loopK ref07_Text_ks (cAt [1, 1, 0, 1, 0, 1, 1, 1, 1, 1, 0, 1, 0, 1, 0, 0] ref07_Text_c) again ((blockK 1 ((seqK (fun _ t => ref07_Text_C base (cAt [1, 1, 0, 1, 0, 1, 1, 1, 1, 1, 0, 1, 1] ref07_Text_c) ((blockK 0 ((seqK (fun _ t => ref07_Text_C base (cAt [1, 1, 1] ref07_Text_c) (ref07_Text_e base) (trimA ref07_Text_ks (cAt [1, 1, 1] ref07_Text_c) t)) (ref07_Text_e base))))) (trimA ref07_Text_ks (cAt [1, 1, 0, 1, 0, 1, 1, 1, 1, 1, 0, 1, 1] ref07_Text_c) t)) ((blockK 0 ((seqK (fun _ t => ref07_Text_C base (cAt [1, 1, 1] ref07_Text_c) (ref07_Text_e base) (trimA ref07_Text_ks (cAt [1, 1, 1] ref07_Text_c) t)) (ref07_Text_e base)))))))))) t H d)) ((blockK 1 ((seqK (fun _ t => ref07_Text_C base (cAt [1, 1, 0, 1, 0, 1, 1, 1, 1, 1, 0, 1, 1] ref07_Text_c) ((blockK 0 ((seqK (fun _ t => ref07_Text_C base (cAt [1, 1, 1] ref07_Text_c) (ref07_Text_e base) (trimA ref07_Text_ks (cAt [1, 1, 1] ref07_Text_c) t)) (ref07_Text_e base))))) (trimA ref07_Text_ks (cAt [1, 1, 0, 1, 0, 1, 1, 1, 1, 1, 0, 1, 1] ref07_Text_c) t)) ((blockK 0 ((seqK (fun _ t => ref07_Text_C base (cAt [1, 1, 1] ref07_Text_c) (ref07_Text_e base) (trimA ref07_Text_ks (cAt [1, 1, 1] ref07_Text_c) t)) (ref07_Text_e base))))))))))))))) [(3, t3), (4, t4), (5, t5)] H []
theorem ref07_Text_j2_eq (base : Nat) (t3 t4 t5 : V) (H : Heap) : ref07_Text_j2 base t3 t4 t5 H =
 bnd (oIndexPtr 2 t4 t5) fun v15 =>
 bnd (oFieldPtr v15 0) fun v16 =>
 bnd (oLoad false 1 H v16) fun v17 =>
 bcall (E n_ref07_digits [v17] H) (fun v18 h19 =>
 bnd (oBin .add 6 t3 v18) fun v20 =>
 bnd (oBin .add 6 v20 (.str [45])) fun v21 =>
 bnd (oIndexPtr 2 t4 t5) fun v22 =>
 bnd (oFieldPtr v22 1) fun v23 =>
 bnd (bnd (oLoad false 1 h19 v23) fun v24 => sch (sam (oLoad false 1 H v23) v24) (
 some v24)) fun v24 =>
 bcall (E n_ref07_digits [v24] h19) (fun v25 h26 =>
 bnd (oBin .add 6 v21 v25) fun v27 =>
 ref07_Text_j3 base v27 t4 t5 h26)
 (fun v25 h26 => pn false base v25 h26))
 (fun v18 h19 => sch (tlb (oMove t4) fun v29 => tlb (oMove t5) fun v30 => tlb (oIndexPtr 2 v29 v30) fun v31 => tlb (oFieldPtr v31 1) fun v32 => tlb (oLoad false 1 H v32) fun v33 => true) (pn false base v18 h19)) := by kernel_rfl
theorem ref07_Text_l1_eq (base : Nat) (t3 t4 t5 : V) (H : Heap) : ref07_Text_l1 base t3 t4 t5 H =
 bnd (oLenSl t4) fun v11 =>
 bnd (oBin .lss 6 t5 v11) fun v12 =>
 cnd v12
 (bnd (oBin .gtr 6 t5 (.int .i64 0)) fun v13 =>
 cnd v13
 (bnd (oBin .add 6 t3 (.str [44])) fun v14 =>
 ref07_Text_j2 base v14 t4 t5 H)
 (ref07_Text_j2 base t3 t4 t5 H))
 (bnd (oBin .add 6 (.str [91]) t3) fun v34 =>
 bnd (oBin .add 6 v34 (.str [93])) fun v35 =>
 rt false base v35 H) := (loop_eq (cAt [1, 1, 0, 1, 0, 1, 1, 1, 1, 1, 0, 1, 0, 1, 0, 0] ref07_Text_c) ((blockK 1 ((seqK (fun _ t => ref07_Text_C base (cAt [1, 1, 0, 1, 0, 1, 1, 1, 1, 1, 0, 1, 1] ref07_Text_c) ((blockK 0 ((seqK (fun _ t => ref07_Text_C base (cAt [1, 1, 1] ref07_Text_c) (ref07_Text_e base) (trimA ref07_Text_ks (cAt [1, 1, 1] ref07_Text_c) t)) (ref07_Text_e base))))) (trimA ref07_Text_ks (cAt [1, 1, 0, 1, 0, 1, 1, 1, 1, 1, 0, 1, 1] ref07_Text_c) t)) ((blockK 0 ((seqK (fun _ t => ref07_Text_C base (cAt [1, 1, 1] ref07_Text_c) (ref07_Text_e base) (trimA ref07_Text_ks (cAt [1, 1, 1] ref07_Text_c) t)) (ref07_Text_e base))))))))) _ H []).trans (by kernel_rfl)
def ref07_Text_l4 (base : Nat) (t1 t3 t6 : V) (H : Heap) : Option (Out × Heap) :=
iterL (fun t H d again => ref07_Text_C base (cAt [1, 1, 0, 1, 0, 1, 1, 1, 1, 1, 1, 1, 0, 0, 1, 0, 0] ref07_Text_c) (loopK ref07_Text_ks (cAt [1, 1, 0, 1, 0, 1, 1, 1, 1, 1, 1, 1, 0, 0, 1, 0, 0] ref07_Text_c) again ((blockK 3 ((seqK (fun _ t => ref07_Text_C base (cAt [1, 1, 0, 1, 0, 1, 1, 1, 1, 1, 1, 1, 0, 1] ref07_Text_c) ((blockK 0 ((seqK (fun _ t => ref07_Text_C base (cAt [1, 1, 1] ref07_Text_c) (ref07_Text_e base) (trimA ref07_Text_ks (cAt [1, 1, 1] ref07_Text_c) t)) (ref07_Text_e base))))) (trimA ref07_Text_ks (cAt [1, 1, 0, 1, 0, 1, 1, 1, 1, 1, 1, 1, 0, 1] ref07_Text_c) t)) ((blockK 0 ((seqK (fun _ t => ref07_Text_C base (cAt [1, 1, 1] ref07_Text_c) (ref07_Text_e base) (trimA ref07_Text_ks (cAt [1, 1, 1] ref07_Text_c) t)) (ref07_Text_e base)))))))))) t H d) [(1, t1), (3, t3), (6, t6)] H []
theorem ref07_Text_l4_eq (base : Nat) (t1 t3 t6 : V) (H : Heap) : ref07_Text_l4 base t1 t3 t6 H =
 bnd (oFieldPtr t1 5) fun v37 =>
 bnd (oLoad false 1 H v37) fun v38 =>
 bnd (oLenSl v38) fun v39 =>
 bnd (oBin .lss 6 t6 v39) fun v40 =>
 cnd v40
 (bnd (oFieldPtr t1 5) fun v41 =>
 bnd (oLoad false 1 H v41) fun v42 =>
 bnd (oIndexPtr 6 v42 t6) fun v43 =>
 bnd (oLoad true 6 H v43) fun v44 =>
 bcall (E n_ref07_Text [v44] H) (fun v45 h46 =>
 bnd (oBin .add 6 t3 v45) fun v47 =>
 bnd (oBin .add 6 t6 (.int .i64 1)) fun v48 =>
 ref07_Text_l4 base t1 v47 v48 h46)
 (fun v45 h46 => pn false base v45 h46))
 (bnd (oBin .add 6 t3 (.str [42])) fun v49 =>
 rt false base v49 H) := (loop_eq (cAt [1, 1, 0, 1, 0, 1, 1, 1, 1, 1, 1, 1, 0, 0, 1, 0, 0] ref07_Text_c) ((blockK 3 ((seqK (fun _ t => ref07_Text_C base (cAt [1, 1, 0, 1, 0, 1, 1, 1, 1, 1, 1, 1, 0, 1] ref07_Text_c) ((blockK 0 ((seqK (fun _ t => ref07_Text_C base (cAt [1, 1, 1] ref07_Text_c) (ref07_Text_e base) (trimA ref07_Text_ks (cAt [1, 1, 1] ref07_Text_c) t)) (ref07_Text_e base))))) (trimA ref07_Text_ks (cAt [1, 1, 0, 1, 0, 1, 1, 1, 1, 1, 1, 1, 0, 1] ref07_Text_c) t)) ((blockK 0 ((seqK (fun _ t => ref07_Text_C base (cAt [1, 1, 1] ref07_Text_c) (ref07_Text_e base) (trimA ref07_Text_ks (cAt [1, 1, 1] ref07_Text_c) t)) (ref07_Text_e base))))))))) _ H []).trans (by kernel_rfl)
def ref07_Text_l5 (base : Nat) (t1 t3 t7 : V) (H : Heap) : Option (Out × Heap) :=
iterL (fun t H d again => ref07_Text_C base (cAt [1, 1, 1, 0, 1, 0, 0] ref07_Text_c) (loopK ref07_Text_ks (cAt [1, 1, 1, 0, 1, 0, 0] ref07_Text_c) again ((blockK 5 ((seqK (fun _ t => ref07_Text_C base (cAt [1, 1, 1, 1] ref07_Text_c) (ref07_Text_e base) (trimA ref07_Text_ks (cAt [1, 1, 1, 1] ref07_Text_c) t)) (ref07_Text_e base)))))) t H d) [(1, t1), (3, t3), (7, t7)] H []
def ref07_Text_j7 (base : Nat) (t1 t3 t7 : V) (H : Heap) : Option (Out × Heap) :=
ref07_Text_C base (cAt [1, 1, 1, 0, 1, 0, 0, 1, 1] ref07_Text_c) ((loopK ref07_Text_ks (cAt [1, 1, 1, 0, 1, 0, 0] ref07_Text_c) (iterL (fun t H d again => ref07_Text_C base (cAt [1, 1, 1, 0, 1, 0, 0] ref07_Text_c) (loopK ref07_Text_ks (cAt [1, 1, 1, 0, 1, 0, 0] ref07_Text_c) again ((blockK 5 ((seqK (fun _ t => ref07_Text_C base (cAt [1, 1, 1, 1] ref07_Text_c) (ref07_Text_e base) (trimA ref07_Text_ks (cAt [1, 1, 1, 1] ref07_Text_c) t)) (ref07_Text_e base)))))) t H d)) ((blockK 5 ((seqK (fun _ t => ref07_Text_C base (cAt [1, 1, 1, 1] ref07_Text_c) (ref07_Text_e base) (trimA ref07_Text_ks (cAt [1, 1, 1, 1] ref07_Text_c) t)) (ref07_Text_e base))))))) [(1, t1), (3, t3), (7, t7)] H []
theorem ref07_Text_j7_eq (base : Nat) (t1 t3 t7 : V) (H : Heap) : ref07_Text_j7 base t1 t3 t7 H =
 bnd (oBin .add 6 t7 (.int .i64 1)) fun v67 =>
 ref07_Text_l5 base t1 t3 v67 H := by kernel_rfl
def ref07_Text_j6 (base : Nat) (t1 t3 t7 : V) (H : Heap) : Option (Out × Heap) :=
ref07_Text_C base (cAt [1, 1, 1, 0, 1, 0, 0, 1, 0, 0, 1] ref07_Text_c) ((blockK 6 ((seqK (fun _ t => ref07_Text_C base (cAt [1, 1, 1, 0, 1, 0, 0, 1, 1] ref07_Text_c) ((loopK ref07_Text_ks (cAt [1, 1, 1, 0, 1, 0, 0] ref07_Text_c) (iterL (fun t H d again => ref07_Text_C base (cAt [1, 1, 1, 0, 1, 0, 0] ref07_Text_c) (loopK ref07_Text_ks (cAt [1, 1, 1, 0, 1, 0, 0] ref07_Text_c) again ((blockK 5 ((seqK (fun _ t => ref07_Text_C base (cAt [1, 1, 1, 1] ref07_Text_c) (ref07_Text_e base) (trimA ref07_Text_ks (cAt [1, 1, 1, 1] ref07_Text_c) t)) (ref07_Text_e base)))))) t H d)) ((blockK 5 ((seqK (fun _ t => ref07_Text_C base (cAt [1, 1, 1, 1] ref07_Text_c) (ref07_Text_e base) (trimA ref07_Text_ks (cAt [1, 1, 1, 1] ref07_Text_c) t)) (ref07_Text_e base))))))) (trimA ref07_Text_ks (cAt [1, 1, 1, 0, 1, 0, 0, 1, 1] ref07_Text_c) t)) ((loopK ref07_Text_ks (cAt [1, 1, 1, 0, 1, 0, 0] ref07_Text_c) (iterL (fun t H d again => ref07_Text_C base (cAt [1, 1, 1, 0, 1, 0, 0] ref07_Text_c) (loopK ref07_Text_ks (cAt [1, 1, 1, 0, 1, 0, 0] ref07_Text_c) again ((blockK 5 ((seqK (fun _ t => ref07_Text_C base (cAt [1, 1, 1, 1] ref07_Text_c) (ref07_Text_e base) (trimA ref07_Text_ks (cAt [1, 1, 1, 1] ref07_Text_c) t)) (ref07_Text_e base)))))) t H d)) ((blockK 5 ((seqK (fun _ t => ref07_Text_C base (cAt [1, 1, 1, 1] ref07_Text_c) (ref07_Text_e base) (trimA ref07_Text_ks (cAt [1, 1, 1, 1] ref07_Text_c) t)) (ref07_Text_e base))))))))))) [(1, t1), (3, t3), (7, t7)] H []
theorem ref07_Text_j6_eq (base : Nat) (t1 t3 t7 : V) (H : Heap) : ref07_Text_j6 base t1 t3 t7 H =
 bnd (oFieldPtr t1 5) fun v60 =>
 bnd (oLoad false 1 H v60) fun v61 =>
 bnd (oIndexPtr 6 v61 t7) fun v62 =>
 bnd (oLoad true 6 H v62) fun v63 =>
 bcall (E n_ref07_Text [v63] H) (fun v64 h65 =>
 bnd (oBin .add 6 t3 v64) fun v66 =>
 ref07_Text_j7 base t1 v66 t7 h65)
 (fun v64 h65 => pn false base v64 h65) := by kernel_rfl
theorem ref07_Text_l5_eq (base : Nat) (t1 t3 t7 : V) (H : Heap) : ref07_Text_l5 base t1 t3 t7 H =
 bnd (oFieldPtr t1 5) fun v50 =>
 bnd (oLoad false 1 H v50) fun v51 =>
 bnd (oLenSl v51) fun v52 =>
 bnd (oBin .lss 6 t7 v52) fun v53 =>
 cnd v53
 (bnd (oBin .gtr 6 t7 (.int .i64 0)) fun v54 =>
 bnd (gua v54 true (oFieldPtr t1 0) (some (.tup []))) fun v55 =>
 bnd (gua v54 true (oLoad false 1 H v55) (some (.tup []))) fun v56 =>
 bnd (gua v54 true (oBin .neq 6 v56 (.int .i64 3)) (some (.tup []))) fun v57 =>
 bnd (oPick v54 v57 (.bool false)) fun v58 =>
 cnd v58
 (bnd (oBin .add 6 t3 (.str [124])) fun v59 =>
 ref07_Text_j6 base t1 v59 t7 H)
 (ref07_Text_j6 base t1 t3 t7 H))
 (bnd (oFieldPtr t1 0) fun v68 =>
 bnd (oLoad false 1 H v68) fun v69 =>
 bnd (oBin .eql 6 v69 (.int .i64 3)) fun v70 =>
 cnd v70
 (bnd (oBin .add 6 (.str [40]) t3) fun v71 =>
 bnd (oBin .add 6 v71 (.str [41])) fun v72 =>
 rt false base v72 H)
 (bnd (oBin .add 6 (.str [123]) t3) fun v73 =>
 bnd (oBin .add 6 v73 (.str [125])) fun v74 =>
 rt false base v74 H)) := (loop_eq (cAt [1, 1, 1, 0, 1, 0, 0] ref07_Text_c) ((blockK 5 ((seqK (fun _ t => ref07_Text_C base (cAt [1, 1, 1, 1] ref07_Text_c) (ref07_Text_e base) (trimA ref07_Text_ks (cAt [1, 1, 1, 1] ref07_Text_c) t)) (ref07_Text_e base))))) _ H []).trans (by kernel_rfl)
def ref07_Text (base : Nat) (t0 : V) (H : Heap) : Option (Out × Heap) := ref07_Text_C base ref07_Text_c (ref07_Text_e base) [(0, t0)] H []
theorem ref07_Text_eq (base : Nat) (t0 : V) (H : Heap) : ref07_Text base t0 H =
 beff (oVar H t0) fun v0 h1 =>
 bnd (oFieldPtr v0 0) fun v2 =>
 bnd (oLoad false 1 h1 v2) fun v3 =>
 bnd (oBin .eql 6 v3 (.int .i64 0)) fun v4 =>
 cnd v4
 (rt false base (.str [48]) h1)
 (bnd (oBin .eql 6 v3 (.int .i64 1)) fun v5 =>
 cnd v5
 (rt false base (.str [49]) h1)
 (bnd (oBin .eql 6 v3 (.int .i64 2)) fun v6 =>
 cnd v6
 (bnd (oFieldPtr v0 1) fun v7 =>
 bnd (oLoad true 4 h1 v7) fun v8 =>
 bcall (E n_ref01_Ranges [v8] h1) (fun v9 h10 =>
 ref07_Text_l1 base (.str []) v9 (.int .i64 0) h10)
 (fun v9 h10 => pn false base v9 h10))
 (bnd (oBin .eql 6 v3 (.int .i64 5)) fun v36 =>
 cnd v36
 (ref07_Text_l4 base v0 (.str []) (.int .i64 0) h1)
 (ref07_Text_l5 base v0 (.str []) (.int .i64 0) h1)))) := by kernel_rfl
theorem ref07_Text_E (t0 : V) (H : Heap) : E n_ref07_Text [t0] H = ref07_Text H.length t0 H := (EV_at Tryd.func23 (by kernel_rfl) (by kernel_rfl) (by kernel_rfl)).trans (by kernel_rfl)

def ref07_Right_c : Code := bodyOf Tryd.f24
def ref07_Right_ks : Ks := [(2, [1, 3]), (20, [])]
def ref07_Right_e (base : Nat) : KC (Out × Heap) := xEnd Tryd.prog D false base 89 Tryd.f24.results.toList
def ref07_Right_C (base : Nat) (c : Code) (k : KC (Out × Heap)) (t : Ts) (H : Heap) (d : Ds) : Option (Out × Heap) := xC Tryd.prog base false ref07_Right_ks E 89 c k t H d
def ref07_Right_l1 (base : Nat) (t1 t3 : V) (H : Heap) : Option (Out × Heap) :=
iterL (fun t H d again => ref07_Right_C base (cAt [1, 0, 1, 0, 0] ref07_Right_c) (loopK ref07_Right_ks (cAt [1, 0, 1, 0, 0] ref07_Right_c) again ((blockK 0 ((seqK (fun _ t => ref07_Right_C base (cAt [1, 1] ref07_Right_c) (ref07_Right_e base) (trimA ref07_Right_ks (cAt [1, 1] ref07_Right_c) t)) (ref07_Right_e base)))))) t H d) [(1, t1), (3, t3)] H []
def ref07_Right_j2 (base : Nat) (H : Heap) : Option (Out × Heap) :=
ref07_Right_C base (cAt [1, 1, 1, 1] ref07_Right_c) (ref07_Right_e base) [] H []
theorem ref07_Right_j2_eq (base : Nat) (H : Heap) : ref07_Right_j2 base  H =
 rt false base (.bool false) H := by kernel_rfl
theorem ref07_Right_l1_eq (base : Nat) (t1 t3 : V) (H : Heap) : ref07_Right_l1 base t1 t3 H =
 bnd (oFieldPtr t1 5) fun v2 =>
 bnd (oLoad false 1 H v2) fun v3 =>
 bnd (oLenSl v3) fun v4 =>
 bnd (oBin .lss 6 t3 v4) fun v5 =>
 cnd v5
 (bnd (oFieldPtr t1 5) fun v6 =>
 bnd (oLoad false 1 H v6) fun v7 =>
 bnd (oIndexPtr 6 v7 t3) fun v8 =>
 bnd (oLoad true 6 H v8) fun v9 =>
 bcall (E n_ref07_Right [v9] H) (fun v10 h11 =>
 bnd (oUn .not v10) fun v12 =>
 cnd v12
 (rt false base (.bool false) h11)
 (bnd (oBin .add 6 t3 (.int .i64 1)) fun v13 =>
 ref07_Right_l1 base t1 v13 h11))
 (fun v10 h11 => pn false base v10 h11))
 (bnd (oFieldPtr t1 0) fun v14 =>
 bnd (oLoad false 1 H v14) fun v15 =>
 bnd (oBin .neq 6 v15 (.int .i64 2)) fun v16 =>
 bnd (gua v16 true (oFieldPtr t1 1) (some (.tup []))) fun v17 =>
 bnd (gua v16 true (oLoad true 4 H v17) (some (.tup []))) fun v18 =>
 bcall (gua v16 true (E n_ref01_Count [v18] H) (some (.ret (.tup []), H))) (fun v19 h20 =>
 bnd (gua v16 true (oBin .gtr 6 v19 (.int .i64 0)) (some (.tup []))) fun v21 =>
 bnd (oPick v16 v21 (.bool false)) fun v22 =>
 cnd v22
 (rt false base (.bool false) h20)
 (bnd (oFieldPtr t1 0) fun v23 =>
 bnd (oLoad false 1 h20 v23) fun v24 =>
 bnd (oBin .eql 6 v24 (.int .i64 0)) fun v25 =>
 cnd v25
 (cnd v25
 (bnd (oFieldPtr t1 5) fun v26 =>
 bnd (oLoad false 1 h20 v26) fun v27 =>
 bnd (oLenSl v27) fun v28 =>
 bnd (oBin .eql 6 v28 (.int .i64 0)) fun v29 =>
 rt false base v29 h20)
 (bnd (oBin .eql 6 v24 (.int .i64 2)) fun v30 =>
 cnd v30
 (bnd (oFieldPtr t1 5) fun v31 =>
 bnd (oLoad false 1 h20 v31) fun v32 =>
 bnd (oLenSl v32) fun v33 =>
 bnd (oBin .eql 6 v33 (.int .i64 0)) fun v34 =>
 bnd (gua v34 true (oFieldPtr t1 1) (some (.tup []))) fun v35 =>
 bnd (gua v34 true (oLoad true 4 h20 v35) (some (.tup []))) fun v36 =>
 bcall (gua v34 true (E n_ref01_Count [v36] h20) (some (.ret (.tup []), h20))) (fun v37 h38 =>
 bnd (gua v34 true (oBin .gtr 6 v37 (.int .i64 0)) (some (.tup []))) fun v39 =>
 bnd (oPick v34 v39 (.bool false)) fun v40 =>
 rt false base v40 h38)
 (fun v37 h38 => pn false base v37 h38))
 (bnd (oBin .eql 6 v24 (.int .i64 5)) fun v41 =>
 cnd v41
 (bnd (oFieldPtr t1 5) fun v42 =>
 bnd (oLoad false 1 h20 v42) fun v43 =>
 bnd (oLenSl v43) fun v44 =>
 bnd (oBin .eql 6 v44 (.int .i64 1)) fun v45 =>
 bnd (gua v45 true (oFieldPtr t1 5) (some (.tup []))) fun v46 =>
 bnd (gua v45 true (oLoad false 1 h20 v46) (some (.tup []))) fun v47 =>
 bnd (gua v45 true (oIndexPtr 6 v47 (.int .i64 0)) (some (.tup []))) fun v48 =>
 bnd (gua v45 true (oLoad true 6 h20 v48) (some (.tup []))) fun v49 =>
 bcall (gua v45 true (E n_ref07_Star [v49] h20) (some (.ret (.tup []), h20))) (fun v50 h51 =>
 bnd (gua v45 true (bnd (oLoad true 6 h51 t1) fun v52 => sch (sam (oLoad true 6 h20 t1) v52) (
 some v52)) (some (.tup []))) fun v52 =>
 bcall (gua v45 true (E n_ref07_Same [v50, v52] h51) (some (.ret (.tup []), h51))) (fun v53 h54 =>
 bnd (oPick v45 v53 (.bool false)) fun v55 =>
 rt false base v55 h54)
 (fun v53 h54 => pn false base v53 h54))
 (fun v50 h51 => sch (tlb (gua v45 true (oLoad true 6 h20 t1) (some (.tup []))) fun v56 => true) (pn false base v50 h51)))
 (bnd (oBin .eql 6 v24 (.int .i64 3)) fun v57 =>
 cnd v57
 (bnd (oFieldPtr t1 5) fun v58 =>
 bnd (oLoad false 1 h20 v58) fun v59 =>
 bnd (oLenSl v59) fun v60 =>
 bnd (oBin .gtr 6 v60 (.int .i64 1)) fun v61 =>
 bnd (gua v61 true (oFieldPtr t1 5) (some (.tup []))) fun v62 =>
 bnd (gua v61 true (oLoad false 1 h20 v62) (some (.tup []))) fun v63 =>
 bcall (gua v61 true (E n_ref07_Cat [v63] h20) (some (.ret (.tup []), h20))) (fun v64 h65 =>
 bnd (gua v61 true (bnd (oLoad true 6 h65 t1) fun v66 => sch (sam (oLoad true 6 h20 t1) v66) (
 some v66)) (some (.tup []))) fun v66 =>
 bcall (gua v61 true (E n_ref07_Same [v64, v66] h65) (some (.ret (.tup []), h65))) (fun v67 h68 =>
 bnd (oPick v61 v67 (.bool false)) fun v69 =>
 rt false base v69 h68)
 (fun v67 h68 => pn false base v67 h68))
 (fun v64 h65 => sch (tlb (gua v61 true (oLoad true 6 h20 t1) (some (.tup []))) fun v70 => true) (pn false base v64 h65)))
 (bnd (oBin .eql 6 v24 (.int .i64 4)) fun v71 =>
 cnd v71
 (bnd (oFieldPtr t1 5) fun v72 =>
 bnd (oLoad false 1 h20 v72) fun v73 =>
 bnd (oLenSl v73) fun v74 =>
 bnd (oBin .gtr 6 v74 (.int .i64 1)) fun v75 =>
 bnd (gua v75 true (oFieldPtr t1 5) (some (.tup []))) fun v76 =>
 bnd (gua v75 true (oLoad false 1 h20 v76) (some (.tup []))) fun v77 =>
 bcall (gua v75 true (E n_ref07_Either [v77] h20) (some (.ret (.tup []), h20))) (fun v78 h79 =>
 bnd (gua v75 true (bnd (oLoad true 6 h79 t1) fun v80 => sch (sam (oLoad true 6 h20 t1) v80) (
 some v80)) (some (.tup []))) fun v80 =>
 bcall (gua v75 true (E n_ref07_Same [v78, v80] h79) (some (.ret (.tup []), h79))) (fun v81 h82 =>
 bnd (oPick v75 v81 (.bool false)) fun v83 =>
 rt false base v83 h82)
 (fun v81 h82 => pn false base v81 h82))
 (fun v78 h79 => sch (tlb (gua v75 true (oLoad true 6 h20 t1) (some (.tup []))) fun v84 => true) (pn false base v78 h79)))
 (ref07_Right_j2 base  h20))))))
 (bnd (oBin .eql 6 v24 (.int .i64 1)) fun v85 =>
 cnd v85
 (bnd (oFieldPtr t1 5) fun v86 =>
 bnd (oLoad false 1 h20 v86) fun v87 =>
 bnd (oLenSl v87) fun v88 =>
 bnd (oBin .eql 6 v88 (.int .i64 0)) fun v89 =>
 rt false base v89 h20)
 (bnd (oBin .eql 6 v24 (.int .i64 2)) fun v90 =>
 cnd v90
 (bnd (oFieldPtr t1 5) fun v91 =>
 bnd (oLoad false 1 h20 v91) fun v92 =>
 bnd (oLenSl v92) fun v93 =>
 bnd (oBin .eql 6 v93 (.int .i64 0)) fun v94 =>
 bnd (gua v94 true (oFieldPtr t1 1) (some (.tup []))) fun v95 =>
 bnd (gua v94 true (oLoad true 4 h20 v95) (some (.tup []))) fun v96 =>
 bcall (gua v94 true (E n_ref01_Count [v96] h20) (some (.ret (.tup []), h20))) (fun v97 h98 =>
 bnd (gua v94 true (oBin .gtr 6 v97 (.int .i64 0)) (some (.tup []))) fun v99 =>
 bnd (oPick v94 v99 (.bool false)) fun v100 =>
 rt false base v100 h98)
 (fun v97 h98 => pn false base v97 h98))
 (bnd (oBin .eql 6 v24 (.int .i64 5)) fun v101 =>
 cnd v101
 (bnd (oFieldPtr t1 5) fun v102 =>
 bnd (oLoad false 1 h20 v102) fun v103 =>
 bnd (oLenSl v103) fun v104 =>
 bnd (oBin .eql 6 v104 (.int .i64 1)) fun v105 =>
 bnd (gua v105 true (oFieldPtr t1 5) (some (.tup []))) fun v106 =>
 bnd (gua v105 true (oLoad false 1 h20 v106) (some (.tup []))) fun v107 =>
 bnd (gua v105 true (oIndexPtr 6 v107 (.int .i64 0)) (some (.tup []))) fun v108 =>
 bnd (gua v105 true (oLoad true 6 h20 v108) (some (.tup []))) fun v109 =>
 bcall (gua v105 true (E n_ref07_Star [v109] h20) (some (.ret (.tup []), h20))) (fun v110 h111 =>
 bnd (gua v105 true (bnd (oLoad true 6 h111 t1) fun v112 => sch (sam (oLoad true 6 h20 t1) v112) (
 some v112)) (some (.tup []))) fun v112 =>
 bcall (gua v105 true (E n_ref07_Same [v110, v112] h111) (some (.ret (.tup []), h111))) (fun v113 h114 =>
 bnd (oPick v105 v113 (.bool false)) fun v115 =>
 rt false base v115 h114)
 (fun v113 h114 => pn false base v113 h114))
 (fun v110 h111 => sch (tlb (gua v105 true (oLoad true 6 h20 t1) (some (.tup []))) fun v116 => true) (pn false base v110 h111)))
 (bnd (oBin .eql 6 v24 (.int .i64 3)) fun v117 =>
 cnd v117
 (bnd (oFieldPtr t1 5) fun v118 =>
 bnd (oLoad false 1 h20 v118) fun v119 =>
 bnd (oLenSl v119) fun v120 =>
 bnd (oBin .gtr 6 v120 (.int .i64 1)) fun v121 =>
 bnd (gua v121 true (oFieldPtr t1 5) (some (.tup []))) fun v122 =>
 bnd (gua v121 true (oLoad false 1 h20 v122) (some (.tup []))) fun v123 =>
 bcall (gua v121 true (E n_ref07_Cat [v123] h20) (some (.ret (.tup []), h20))) (fun v124 h125 =>
 bnd (gua v121 true (bnd (oLoad true 6 h125 t1) fun v126 => sch (sam (oLoad true 6 h20 t1) v126) (
 some v126)) (some (.tup []))) fun v126 =>
 bcall (gua v121 true (E n_ref07_Same [v124, v126] h125) (some (.ret (.tup []), h125))) (fun v127 h128 =>
 bnd (oPick v121 v127 (.bool false)) fun v129 =>
 rt false base v129 h128)
 (fun v127 h128 => pn false base v127 h128))
 (fun v124 h125 => sch (tlb (gua v121 true (oLoad true 6 h20 t1) (some (.tup []))) fun v130 => true) (pn false base v124 h125)))
 (bnd (oBin .eql 6 v24 (.int .i64 4)) fun v131 =>
 cnd v131
 (bnd (oFieldPtr t1 5) fun v132 =>
 bnd (oLoad false 1 h20 v132) fun v133 =>
 bnd (oLenSl v133) fun v134 =>
 bnd (oBin .gtr 6 v134 (.int .i64 1)) fun v135 =>
 bnd (gua v135 true (oFieldPtr t1 5) (some (.tup []))) fun v136 =>
 bnd (gua v135 true (oLoad false 1 h20 v136) (some (.tup []))) fun v137 =>
 bcall (gua v135 true (E n_ref07_Either [v137] h20) (some (.ret (.tup []), h20))) (fun v138 h139 =>
 bnd (gua v135 true (bnd (oLoad true 6 h139 t1) fun v140 => sch (sam (oLoad true 6 h20 t1) v140) (
 some v140)) (some (.tup []))) fun v140 =>
 bcall (gua v135 true (E n_ref07_Same [v138, v140] h139) (some (.ret (.tup []), h139))) (fun v141 h142 =>
 bnd (oPick v135 v141 (.bool false)) fun v143 =>
 rt false base v143 h142)
 (fun v141 h142 => pn false base v141 h142))
 (fun v138 h139 => sch (tlb (gua v135 true (oLoad true 6 h20 t1) (some (.tup []))) fun v144 => true) (pn false base v138 h139)))
 (ref07_Right_j2 base  h20))))))))
 (fun v19 h20 => pn false base v19 h20)) := (loop_eq (cAt [1, 0, 1, 0, 0] ref07_Right_c) ((blockK 0 ((seqK (fun _ t => ref07_Right_C base (cAt [1, 1] ref07_Right_c) (ref07_Right_e base) (trimA ref07_Right_ks (cAt [1, 1] ref07_Right_c) t)) (ref07_Right_e base))))) _ H []).trans (by kernel_rfl)
def ref07_Right (base : Nat) (t0 : V) (H : Heap) : Option (Out × Heap) := ref07_Right_C base ref07_Right_c (ref07_Right_e base) [(0, t0)] H []
theorem ref07_Right_eq (base : Nat) (t0 : V) (H : Heap) : ref07_Right base t0 H =
 beff (oVar H t0) fun v0 h1 =>
 ref07_Right_l1 base v0 (.int .i64 0) h1 := by kernel_rfl
theorem ref07_Right_E (t0 : V) (H : Heap) : E n_ref07_Right [t0] H = ref07_Right H.length t0 H := (EV_at Tryd.func24 (by kernel_rfl) (by kernel_rfl) (by kernel_rfl)).trans (by kernel_rfl)

def ref07_Star_c : Code := bodyOf Tryd.f25
def ref07_Star_ks : Ks := [(7, [1, 2])]
def ref07_Star_e (base : Nat) : KC (Out × Heap) := xEnd Tryd.prog D false base 15 Tryd.f25.results.toList
def ref07_Star_C (base : Nat) (c : Code) (k : KC (Out × Heap)) (t : Ts) (H : Heap) (d : Ds) : Option (Out × Heap) := xC Tryd.prog base false ref07_Star_ks E 15 c k t H d
def ref07_Star_j1 (base : Nat) (t1 t2 : V) (H : Heap) : Option (Out × Heap) :=
ref07_Star_C base (cAt [1, 1] ref07_Star_c) (ref07_Star_e base) [(1, t1), (2, t2)] H []
theorem ref07_Star_j1_eq (base : Nat) (t1 t2 : V) (H : Heap) : ref07_Star_j1 base t1 t2 H =
 bnd (oLoad true 6 H t1) fun v16 =>
 bnd (oLit 6 1 (.agg [(.int .i64 0), (.int .u64 0), (.int .u64 0), (.int .u64 0), (.int .u64 0), (.vs [])]) [(0, v16)]) fun v17 =>
 bnd (oBuild [(.int .i64 0), (.int .u64 0), (.int .u64 0), (.int .u64 0), (.int .u64 0), .nils] [(0, 1), (1, 4), (5, 1)] [(0, (.int .i64 5)), (2, v17)]) fun v18 =>
 beff (oStore base 6 H t2 v18) fun v19 h20 =>
 bnd (oLoad true 6 h20 t2) fun v21 =>
 rt false base v21 h20 := by kernel_rfl
def ref07_Star (base : Nat) (t0 : V) (H : Heap) : Option (Out × Heap) := ref07_Star_C base ref07_Star_c (ref07_Star_e base) [(0, t0)] H []
theorem ref07_Star_eq (base : Nat) (t0 : V) (H : Heap) : ref07_Star base t0 H =
 beff (oVar H t0) fun v0 h1 =>
 beff (oVar h1 (.agg [(.int .i64 0), (.int .u64 0), (.int .u64 0), (.int .u64 0), (.int .u64 0), .nils])) fun v2 h3 =>
 bnd (oFieldPtr v0 0) fun v4 =>
 bnd (oLoad false 1 h3 v4) fun v5 =>
 bnd (oBin .eql 6 v5 (.int .i64 0)) fun v6 =>
 cnd v6
 (cnd v6
 (bnd (oBuild [(.int .i64 0), (.int .u64 0), (.int .u64 0), (.int .u64 0), (.int .u64 0), .nils] [(0, 1), (1, 4), (5, 1)] [(0, (.int .i64 1))]) fun v7 =>
 beff (oStore base 6 h3 v2 v7) fun v8 h9 =>
 bnd (oLoad true 6 h9 v2) fun v10 =>
 rt false base v10 h9)
 (bnd (oBin .eql 6 v5 (.int .i64 5)) fun v11 =>
 cnd v11
 (bnd (oLoad true 6 h3 v0) fun v12 =>
 beff (oStore base 6 h3 v2 v12) fun v13 h14 =>
 bnd (oLoad true 6 h14 v2) fun v15 =>
 rt false base v15 h14)
 (ref07_Star_j1 base v0 v2 h3)))
 (bnd (oBin .eql 6 v5 (.int .i64 1)) fun v22 =>
 cnd v22
 (bnd (oBuild [(.int .i64 0), (.int .u64 0), (.int .u64 0), (.int .u64 0), (.int .u64 0), .nils] [(0, 1), (1, 4), (5, 1)] [(0, (.int .i64 1))]) fun v23 =>
 beff (oStore base 6 h3 v2 v23) fun v24 h25 =>
 bnd (oLoad true 6 h25 v2) fun v26 =>
 rt false base v26 h25)
 (bnd (oBin .eql 6 v5 (.int .i64 5)) fun v27 =>
 cnd v27
 (bnd (oLoad true 6 h3 v0) fun v28 =>
 beff (oStore base 6 h3 v2 v28) fun v29 h30 =>
 bnd (oLoad true 6 h30 v2) fun v31 =>
 rt false base v31 h30)
 (ref07_Star_j1 base v0 v2 h3))) := by kernel_rfl
theorem ref07_Star_E (t0 : V) (H : Heap) : E n_ref07_Star [t0] H = ref07_Star H.length t0 H := (EV_at Tryd.func25 (by kernel_rfl) (by kernel_rfl) (by kernel_rfl)).trans (by kernel_rfl)

def ref07_Cat_c : Code := bodyOf Tryd.f26
def ref07_Cat_ks : Ks := [(4, [2, 3, 4, 5]), (5, [2, 3, 4, 5])]
def ref07_Cat_e (base : Nat) : KC (Out × Heap) := xEnd Tryd.prog D false base 40 Tryd.f26.results.toList
def ref07_Cat_C (base : Nat) (c : Code) (k : KC (Out × Heap)) (t : Ts) (H : Heap) (d : Ds) : Option (Out × Heap) := xC Tryd.prog base false ref07_Cat_ks E 40 c k t H d
def ref07_Cat_l1 (base : Nat) (t2 t3 t4 t5 : V) (H : Heap) : Option (Out × Heap) :=
iterL (fun t H d again => ref07_Cat_C base (cAt [1, 1, 1, 0, 1, 0, 0] ref07_Cat_c) (loopK ref07_Cat_ks (cAt [1, 1, 1, 0, 1, 0, 0] ref07_Cat_c) again ((blockK 0 ((seqK (fun _ t => ref07_Cat_C base (cAt [1, 1, 1, 1] ref07_Cat_c) (ref07_Cat_e base) (trimA ref07_Cat_ks (cAt [1, 1, 1, 1] ref07_Cat_c) t)) (ref07_Cat_e base)))))) t H d) [(2, t2), (3, t3), (4, t4), (5, t5)] H []
def ref07_Cat_j2 (base : Nat) (t2 t3 t4 t5 : V) (H : Heap) : Option (Out × Heap) :=
ref07_Cat_C base (cAt [1, 1, 1, 0, 1, 0, 0, 1, 1] ref07_Cat_c) ((loopK ref07_Cat_ks (cAt [1, 1, 1, 0, 1, 0, 0] ref07_Cat_c) (iterL (fun t H d again => ref07_Cat_C base (cAt [1, 1, 1, 0, 1, 0, 0] ref07_Cat_c) (loopK ref07_Cat_ks (cAt [1, 1, 1, 0, 1, 0, 0] ref07_Cat_c) again ((blockK 0 ((seqK (fun _ t => ref07_Cat_C base (cAt [1, 1, 1, 1] ref07_Cat_c) (ref07_Cat_e base) (trimA ref07_Cat_ks (cAt [1, 1, 1, 1] ref07_Cat_c) t)) (ref07_Cat_e base)))))) t H d)) ((blockK 0 ((seqK (fun _ t => ref07_Cat_C base (cAt [1, 1, 1, 1] ref07_Cat_c) (ref07_Cat_e base) (trimA ref07_Cat_ks (cAt [1, 1, 1, 1] ref07_Cat_c) t)) (ref07_Cat_e base))))))) [(2, t2), (3, t3), (4, t4), (5, t5)] H []
theorem ref07_Cat_j2_eq (base : Nat) (t2 t3 t4 t5 : V) (H : Heap) : ref07_Cat_j2 base t2 t3 t4 t5 H =
 bnd (oBin .add 6 t5 (.int .i64 1)) fun v23 =>
 ref07_Cat_l1 base t2 t3 t4 v23 H := by kernel_rfl
theorem ref07_Cat_l1_eq (base : Nat) (t2 t3 t4 t5 : V) (H : Heap) : ref07_Cat_l1 base t2 t3 t4 t5 H =
 bnd (oLenSl t3) fun v4 =>
 bnd (oBin .lss 6 t5 v4) fun v5 =>
 cnd v5
 (bnd (oIndexPtr 6 t3 t5) fun v6 =>
 bnd (oFieldPtr v6 0) fun v7 =>
 bnd (oLoad false 1 H v7) fun v8 =>
 bnd (oBin .eql 6 v8 (.int .i64 0)) fun v9 =>
 cnd v9
 (bnd (oBuild [(.int .i64 0), (.int .u64 0), (.int .u64 0), (.int .u64 0), (.int .u64 0), .nils] [(0, 1), (1, 4), (5, 1)] []) fun v10 =>
 beff (oStore base 6 H t2 v10) fun v11 h12 =>
 bnd (oLoad true 6 h12 t2) fun v13 =>
 rt false base v13 h12)
 (bnd (oIndexPtr 6 t3 t5) fun v14 =>
 bnd (oFieldPtr v14 0) fun v15 =>
 bnd (oLoad false 1 H v15) fun v16 =>
 bnd (oBin .neq 6 v16 (.int .i64 1)) fun v17 =>
 cnd v17
 (bnd (oIndexPtr 6 t3 t5) fun v18 =>
 bnd (oLoad true 6 H v18) fun v19 =>
 bnd (oLit 6 1 (.agg [(.int .i64 0), (.int .u64 0), (.int .u64 0), (.int .u64 0), (.int .u64 0), (.vs [])]) [(0, v19)]) fun v20 =>
 beff (oAppend base 6 64 true t4 v20 H) fun v21 h22 =>
 ref07_Cat_j2 base t2 t3 v21 t5 h22)
 (ref07_Cat_j2 base t2 t3 t4 t5 H)))
 (bnd (oLenSl t4) fun v24 =>
 bnd (oBin .eql 6 v24 (.int .i64 0)) fun v25 =>
 cnd v25
 (bnd (oBuild [(.int .i64 0), (.int .u64 0), (.int .u64 0), (.int .u64 0), (.int .u64 0), .nils] [(0, 1), (1, 4), (5, 1)] [(0, (.int .i64 1))]) fun v26 =>
 beff (oStore base 6 H t2 v26) fun v27 h28 =>
 bnd (oLoad true 6 h28 t2) fun v29 =>
 rt false base v29 h28)
 (bcall (E n_ref07_some [t4, (.int .i64 3)] H) (fun v30 h31 =>
 beff (oStore base 6 h31 t2 v30) fun v32 h33 =>
 bnd (oLoad true 6 h33 t2) fun v34 =>
 rt false base v34 h33)
 (fun v30 h31 => pn false base v30 h31))) := (loop_eq (cAt [1, 1, 1, 0, 1, 0, 0] ref07_Cat_c) ((blockK 0 ((seqK (fun _ t => ref07_Cat_C base (cAt [1, 1, 1, 1] ref07_Cat_c) (ref07_Cat_e base) (trimA ref07_Cat_ks (cAt [1, 1, 1, 1] ref07_Cat_c) t)) (ref07_Cat_e base))))) _ H []).trans (by kernel_rfl)
def ref07_Cat (base : Nat) (t0 : V) (H : Heap) : Option (Out × Heap) := ref07_Cat_C base ref07_Cat_c (ref07_Cat_e base) [(0, t0)] H []
theorem ref07_Cat_eq (base : Nat) (t0 : V) (H : Heap) : ref07_Cat base t0 H =
 beff (oVar H (.agg [(.int .i64 0), (.int .u64 0), (.int .u64 0), (.int .u64 0), (.int .u64 0), .nils])) fun v0 h1 =>
 bcall (E n_ref07_flat [t0, (.int .i64 3)] h1) (fun v2 h3 =>
 ref07_Cat_l1 base v0 v2 .nils (.int .i64 0) h3)
 (fun v2 h3 => pn false base v2 h3) := by kernel_rfl
theorem ref07_Cat_E (t0 : V) (H : Heap) : E n_ref07_Cat [t0] H = ref07_Cat H.length t0 H := (EV_at Tryd.func26 (by kernel_rfl) (by kernel_rfl) (by kernel_rfl)).trans (by kernel_rfl)

def ref07_Either_c : Code := bodyOf Tryd.f27
def ref07_Either_ks : Ks := [(5, [2, 3, 4, 5, 6]), (6, [2, 3, 4, 5, 6]), (11, [2, 3, 4]), (12, [2, 3, 4, 7]), (13, [2, 3, 4, 7])]
def ref07_Either_e (base : Nat) : KC (Out × Heap) := xEnd Tryd.prog D false base 69 Tryd.f27.results.toList
def ref07_Either_C (base : Nat) (c : Code) (k : KC (Out × Heap)) (t : Ts) (H : Heap) (d : Ds) : Option (Out × Heap) := xC Tryd.prog base false ref07_Either_ks E 69 c k t H d
def ref07_Either_l1 (base : Nat) (t2 t3 t4 t5 t6 : V) (H : Heap) : Option (Out × Heap) :=
iterL (fun t H d again => ref07_Either_C base (cAt [1, 1, 1, 1, 0, 1, 0, 0] ref07_Either_c) (loopK ref07_Either_ks (cAt [1, 1, 1, 1, 0, 1, 0, 0] ref07_Either_c) again ((blockK 0 ((seqK (fun _ t => ref07_Either_C base (cAt [1, 1, 1, 1, 1] ref07_Either_c) (ref07_Either_e base) (trimA ref07_Either_ks (cAt [1, 1, 1, 1, 1] ref07_Either_c) t)) (ref07_Either_e base)))))) t H d) [(2, t2), (3, t3), (4, t4), (5, t5), (6, t6)] H []
def ref07_Either_j2 (base : Nat) (t2 t3 t4 t5 t6 : V) (H : Heap) : Option (Out × Heap) :=
ref07_Either_C base (cAt [1, 1, 1, 1, 0, 1, 0, 0, 1, 1] ref07_Either_c) ((loopK ref07_Either_ks (cAt [1, 1, 1, 1, 0, 1, 0, 0] ref07_Either_c) (iterL (fun t H d again => ref07_Either_C base (cAt [1, 1, 1, 1, 0, 1, 0, 0] ref07_Either_c) (loopK ref07_Either_ks (cAt [1, 1, 1, 1, 0, 1, 0, 0] ref07_Either_c) again ((blockK 0 ((seqK (fun _ t => ref07_Either_C base (cAt [1, 1, 1, 1, 1] ref07_Either_c) (ref07_Either_e base) (trimA ref07_Either_ks (cAt [1, 1, 1, 1, 1] ref07_Either_c) t)) (ref07_Either_e base)))))) t H d)) ((blockK 0 ((seqK (fun _ t => ref07_Either_C base (cAt [1, 1, 1, 1, 1] ref07_Either_c) (ref07_Either_e base) (trimA ref07_Either_ks (cAt [1, 1, 1, 1, 1] ref07_Either_c) t)) (ref07_Either_e base))))))) [(2, t2), (3, t3), (4, t4), (5, t5), (6, t6)] H []
theorem ref07_Either_j2_eq (base : Nat) (t2 t3 t4 t5 t6 : V) (H : Heap) : ref07_Either_j2 base t2 t3 t4 t5 t6 H =
 bnd (oBin .add 6 t6 (.int .i64 1)) fun v20 =>
 ref07_Either_l1 base t2 t3 t4 t5 v20 H := by kernel_rfl
def ref07_Either_l4 (base : Nat) (t2 t3 t4 t7 : V) (H : Heap) : Option (Out × Heap) :=
iterL (fun t H d again => ref07_Either_C base (cAt [1, 1, 1, 1, 1, 1, 0, 1, 0, 0] ref07_Either_c) (loopK ref07_Either_ks (cAt [1, 1, 1, 1, 1, 1, 0, 1, 0, 0] ref07_Either_c) again ((blockK 2 ((seqK (fun _ t => ref07_Either_C base (cAt [1, 1, 1, 1, 1, 1, 1] ref07_Either_c) (ref07_Either_e base) (trimA ref07_Either_ks (cAt [1, 1, 1, 1, 1, 1, 1] ref07_Either_c) t)) (ref07_Either_e base)))))) t H d) [(2, t2), (3, t3), (4, t4), (7, t7)] H []
def ref07_Either_j5 (base : Nat) (t2 t3 t4 t7 : V) (H : Heap) : Option (Out × Heap) :=
ref07_Either_C base (cAt [1, 1, 1, 1, 1, 1, 0, 1, 0, 0, 1, 1] ref07_Either_c) ((loopK ref07_Either_ks (cAt [1, 1, 1, 1, 1, 1, 0, 1, 0, 0] ref07_Either_c) (iterL (fun t H d again => ref07_Either_C base (cAt [1, 1, 1, 1, 1, 1, 0, 1, 0, 0] ref07_Either_c) (loopK ref07_Either_ks (cAt [1, 1, 1, 1, 1, 1, 0, 1, 0, 0] ref07_Either_c) again ((blockK 2 ((seqK (fun _ t => ref07_Either_C base (cAt [1, 1, 1, 1, 1, 1, 1] ref07_Either_c) (ref07_Either_e base) (trimA ref07_Either_ks (cAt [1, 1, 1, 1, 1, 1, 1] ref07_Either_c) t)) (ref07_Either_e base)))))) t H d)) ((blockK 2 ((seqK (fun _ t => ref07_Either_C base (cAt [1, 1, 1, 1, 1, 1, 1] ref07_Either_c) (ref07_Either_e base) (trimA ref07_Either_ks (cAt [1, 1, 1, 1, 1, 1, 1] ref07_Either_c) t)) (ref07_Either_e base))))))) [(2, t2), (3, t3), (4, t4), (7, t7)] H []
theorem ref07_Either_j5_eq (base : Nat) (t2 t3 t4 t7 : V) (H : Heap) : ref07_Either_j5 base t2 t3 t4 t7 H =
 bnd (oBin .add 6 t7 (.int .i64 1)) fun v48 =>
 ref07_Either_l4 base t2 t3 t4 v48 H := by kernel_rfl
theorem ref07_Either_l4_eq (base : Nat) (t2 t3 t4 t7 : V) (H : Heap) : ref07_Either_l4 base t2 t3 t4 t7 H =
 bnd (oLenSl t3) fun v31 =>
 bnd (oBin .lss 6 t7 v31) fun v32 =>
 cnd v32
 (bnd (oIndexPtr 6 t3 t7) fun v33 =>
 bnd (oFieldPtr v33 0) fun v34 =>
 bnd (oLoad false 1 H v34) fun v35 =>
 bnd (oBin .neq 6 v35 (.int .i64 0)) fun v36 =>
 bnd (gua v36 true (oMove t3) (some (.tup []))) fun v37 =>
 bnd (gua v36 true (oMove t7) (some (.tup []))) fun v38 =>
 bnd (gua v36 true (oIndexPtr 6 v37 v38) (some (.tup []))) fun v39 =>
 bnd (gua v36 true (oFieldPtr v39 0) (some (.tup []))) fun v40 =>
 bnd (gua v36 true (oLoad false 1 H v40) (some (.tup []))) fun v41 =>
 bnd (gua v36 true (oBin .neq 6 v41 (.int .i64 2)) (some (.tup []))) fun v42 =>
 bnd (oPick v36 v42 (.bool false)) fun v43 =>
 cnd v43
 (bnd (oIndexPtr 6 t3 t7) fun v44 =>
 bnd (oLoad true 6 H v44) fun v45 =>
 bcall (E n_ref07_put [t4, v45] H) (fun v46 h47 =>
 ref07_Either_j5 base t2 t3 v46 t7 h47)
 (fun v46 h47 => pn false base v46 h47))
 (ref07_Either_j5 base t2 t3 t4 t7 H))
 (bnd (oLenSl t4) fun v49 =>
 bnd (oBin .eql 6 v49 (.int .i64 0)) fun v50 =>
 cnd v50
 (bnd (oBuild [(.int .i64 0), (.int .u64 0), (.int .u64 0), (.int .u64 0), (.int .u64 0), .nils] [(0, 1), (1, 4), (5, 1)] []) fun v51 =>
 beff (oStore base 6 H t2 v51) fun v52 h53 =>
 bnd (oLoad true 6 h53 t2) fun v54 =>
 rt false base v54 h53)
 (bcall (E n_ref07_some [t4, (.int .i64 4)] H) (fun v55 h56 =>
 beff (oStore base 6 h56 t2 v55) fun v57 h58 =>
 bnd (oLoad true 6 h58 t2) fun v59 =>
 rt false base v59 h58)
 (fun v55 h56 => pn false base v55 h56))) := (loop_eq (cAt [1, 1, 1, 1, 1, 1, 0, 1, 0, 0] ref07_Either_c) ((blockK 2 ((seqK (fun _ t => ref07_Either_C base (cAt [1, 1, 1, 1, 1, 1, 1] ref07_Either_c) (ref07_Either_e base) (trimA ref07_Either_ks (cAt [1, 1, 1, 1, 1, 1, 1] ref07_Either_c) t)) (ref07_Either_e base))))) _ H []).trans (by kernel_rfl)
def ref07_Either_j3 (base : Nat) (t2 t3 t4 : V) (H : Heap) : Option (Out × Heap) :=
ref07_Either_C base (cAt [1, 1, 1, 1, 1, 1] ref07_Either_c) (ref07_Either_e base) [(2, t2), (3, t3), (4, t4)] H []
theorem ref07_Either_j3_eq (base : Nat) (t2 t3 t4 : V) (H : Heap) : ref07_Either_j3 base t2 t3 t4 H =
 ref07_Either_l4 base t2 t3 t4 (.int .i64 0) H := by kernel_rfl
theorem ref07_Either_l1_eq (base : Nat) (t2 t3 t4 t5 t6 : V) (H : Heap) : ref07_Either_l1 base t2 t3 t4 t5 t6 H =
 bnd (oLenSl t3) fun v6 =>
 bnd (oBin .lss 6 t6 v6) fun v7 =>
 cnd v7
 (bnd (oIndexPtr 6 t3 t6) fun v8 =>
 bnd (oFieldPtr v8 0) fun v9 =>
 bnd (oLoad false 1 H v9) fun v10 =>
 bnd (oBin .eql 6 v10 (.int .i64 2)) fun v11 =>
 cnd v11
 (bnd (oLoad true 4 H t5) fun v12 =>
 bnd (oIndexPtr 6 t3 t6) fun v13 =>
 bnd (oFieldPtr v13 1) fun v14 =>
 bnd (oLoad true 4 H v14) fun v15 =>
 bcall (E n_ref01_Join [v12, v15] H) (fun v16 h17 =>
 beff (oStore base 4 h17 t5 v16) fun v18 h19 =>
 ref07_Either_j2 base t2 t3 t4 t5 t6 h19)
 (fun v16 h17 => pn false base v16 h17))
 (ref07_Either_j2 base t2 t3 t4 t5 t6 H))
 (bnd (oLoad true 4 H t5) fun v21 =>
 bcall (E n_ref01_Count [v21] H) (fun v22 h23 =>
 bnd (oBin .gtr 6 v22 (.int .i64 0)) fun v24 =>
 cnd v24
 (bnd (oLoad true 4 h23 t5) fun v25 =>
 bcall (E n_ref07_Of [v25] h23) (fun v26 h27 =>
 bnd (oLit 6 1 (.agg [(.int .i64 0), (.int .u64 0), (.int .u64 0), (.int .u64 0), (.int .u64 0), (.vs [])]) [(0, v26)]) fun v28 =>
 beff (oAppend base 6 64 true t4 v28 h27) fun v29 h30 =>
 ref07_Either_j3 base t2 t3 v29 h30)
 (fun v26 h27 => pn false base v26 h27))
 (ref07_Either_j3 base t2 t3 t4 h23))
 (fun v22 h23 => pn false base v22 h23)) := (loop_eq (cAt [1, 1, 1, 1, 0, 1, 0, 0] ref07_Either_c) ((blockK 0 ((seqK (fun _ t => ref07_Either_C base (cAt [1, 1, 1, 1, 1] ref07_Either_c) (ref07_Either_e base) (trimA ref07_Either_ks (cAt [1, 1, 1, 1, 1] ref07_Either_c) t)) (ref07_Either_e base))))) _ H []).trans (by kernel_rfl)
def ref07_Either (base : Nat) (t0 : V) (H : Heap) : Option (Out × Heap) := ref07_Either_C base ref07_Either_c (ref07_Either_e base) [(0, t0)] H []
theorem ref07_Either_eq (base : Nat) (t0 : V) (H : Heap) : ref07_Either base t0 H =
 beff (oVar H (.agg [(.int .i64 0), (.int .u64 0), (.int .u64 0), (.int .u64 0), (.int .u64 0), .nils])) fun v0 h1 =>
 bcall (E n_ref07_flat [t0, (.int .i64 4)] h1) (fun v2 h3 =>
 beff (oVar h3 (.agg [(.int .u64 0), (.int .u64 0), (.int .u64 0), (.int .u64 0)])) fun v4 h5 =>
 ref07_Either_l1 base v0 v2 .nils v4 (.int .i64 0) h5)
 (fun v2 h3 => pn false base v2 h3) := by kernel_rfl
theorem ref07_Either_E (t0 : V) (H : Heap) : E n_ref07_Either [t0] H = ref07_Either H.length t0 H := (EV_at Tryd.func27 (by kernel_rfl) (by kernel_rfl) (by kernel_rfl)).trans (by kernel_rfl)

def ref01_Count_c : Code := bodyOf Tryd.f28
def ref01_Count_ks : Ks := [(3, [1, 3, 4]), (4, [1, 3, 4])]
def ref01_Count_e (base : Nat) : KC (Out × Heap) := xEnd Tryd.prog D false base 15 Tryd.f28.results.toList
def ref01_Count_C (base : Nat) (c : Code) (k : KC (Out × Heap)) (t : Ts) (H : Heap) (d : Ds) : Option (Out × Heap) := xC Tryd.prog base false ref01_Count_ks E 15 c k t H d
def ref01_Count_l1 (base : Nat) (t1 t3 t4 : V) (H : Heap) : Option (Out × Heap) :=
iterL (fun t H d again => ref01_Count_C base (cAt [1, 1, 0, 1, 0, 0] ref01_Count_c) (loopK ref01_Count_ks (cAt [1, 1, 0, 1, 0, 0] ref01_Count_c) again ((blockK 0 ((seqK (fun _ t => ref01_Count_C base (cAt [1, 1, 1] ref01_Count_c) (ref01_Count_e base) (trimA ref01_Count_ks (cAt [1, 1, 1] ref01_Count_c) t)) (ref01_Count_e base)))))) t H d) [(1, t1), (3, t3), (4, t4)] H []
def ref01_Count_j2 (base : Nat) (t1 t3 t4 : V) (H : Heap) : Option (Out × Heap) :=
ref01_Count_C base (cAt [1, 1, 0, 1, 0, 0, 1, 1] ref01_Count_c) ((loopK ref01_Count_ks (cAt [1, 1, 0, 1, 0, 0] ref01_Count_c) (iterL (fun t H d again => ref01_Count_C base (cAt [1, 1, 0, 1, 0, 0] ref01_Count_c) (loopK ref01_Count_ks (cAt [1, 1, 0, 1, 0, 0] ref01_Count_c) again ((blockK 0 ((seqK (fun _ t => ref01_Count_C base (cAt [1, 1, 1] ref01_Count_c) (ref01_Count_e base) (trimA ref01_Count_ks (cAt [1, 1, 1] ref01_Count_c) t)) (ref01_Count_e base)))))) t H d)) ((blockK 0 ((seqK (fun _ t => ref01_Count_C base (cAt [1, 1, 1] ref01_Count_c) (ref01_Count_e base) (trimA ref01_Count_ks (cAt [1, 1, 1] ref01_Count_c) t)) (ref01_Count_e base))))))) [(1, t1), (3, t3), (4, t4)] H []
theorem ref01_Count_j2_eq (base : Nat) (t1 t3 t4 : V) (H : Heap) : ref01_Count_j2 base t1 t3 t4 H =
 bnd (oBin .add 6 t4 (.int .i64 1)) fun v7 =>
 ref01_Count_l1 base t1 t3 v7 H := by kernel_rfl
theorem ref01_Count_l1_eq (base : Nat) (t1 t3 t4 : V) (H : Heap) : ref01_Count_l1 base t1 t3 t4 H =
 bnd (oBin .lss 6 t4 (.int .i64 256)) fun v2 =>
 cnd v2
 (bnd (oLoad true 4 H t1) fun v3 =>
 bcall (E n_ref01_Has [v3, t4] H) (fun v4 h5 =>
 cnd v4
 (bnd (oBin .add 6 t3 (.int .i64 1)) fun v6 =>
 ref01_Count_j2 base t1 v6 t4 h5)
 (ref01_Count_j2 base t1 t3 t4 h5))
 (fun v4 h5 => pn false base v4 h5))
 (rt false base t3 H) := (loop_eq (cAt [1, 1, 0, 1, 0, 0] ref01_Count_c) ((blockK 0 ((seqK (fun _ t => ref01_Count_C base (cAt [1, 1, 1] ref01_Count_c) (ref01_Count_e base) (trimA ref01_Count_ks (cAt [1, 1, 1] ref01_Count_c) t)) (ref01_Count_e base))))) _ H []).trans (by kernel_rfl)
def ref01_Count (base : Nat) (t0 : V) (H : Heap) : Option (Out × Heap) := ref01_Count_C base ref01_Count_c (ref01_Count_e base) [(0, t0)] H []
theorem ref01_Count_eq (base : Nat) (t0 : V) (H : Heap) : ref01_Count base t0 H =
 beff (oVar H t0) fun v0 h1 =>
 ref01_Count_l1 base v0 (.int .i64 0) (.int .i64 0) h1 := by kernel_rfl
theorem ref01_Count_E (t0 : V) (H : Heap) : E n_ref01_Count [t0] H = ref01_Count H.length t0 H := (EV_at Tryd.func28 (by kernel_rfl) (by kernel_rfl) (by kernel_rfl)).trans (by kernel_rfl)

def ref01_with_c : Code := bodyOf Tryd.f31
def ref01_with_ks : Ks := []
def ref01_with_e (base : Nat) : KC (Out × Heap) := xEnd Tryd.prog D false base 17 Tryd.f31.results.toList
def ref01_with_C (base : Nat) (c : Code) (k : KC (Out × Heap)) (t : Ts) (H : Heap) (d : Ds) : Option (Out × Heap) := xC Tryd.prog base false ref01_with_ks E 17 c k t H d
def ref01_with (base : Nat) (t0 t1 : V) (H : Heap) : Option (Out × Heap) := ref01_with_C base ref01_with_c (ref01_with_e base) [(0, t0), (1, t1)] H []
theorem ref01_with_eq (base : Nat) (t0 t1 : V) (H : Heap) : ref01_with base t0 t1 H =
 beff (oVar H t0) fun v0 h1 =>
 beff (oVar h1 (.agg [(.int .u64 0), (.int .u64 0), (.int .u64 0), (.int .u64 0)])) fun v2 h3 =>
 bnd (oBin .quo 6 t1 (.int .i64 64)) fun v4 =>
 bnd (oBin .quo 6 t1 (.int .i64 64)) fun v5 =>
 bnd (oIndexPtrA 4 1 v0 v5) fun v6 =>
 bnd (oLoad false 1 h3 v6) fun v7 =>
 bnd (oBin .rem 6 t1 (.int .i64 64)) fun v8 =>
 bnd (oBin .shl 6 (.int .u64 1) v8) fun v9 =>
 bnd (oBin .or 6 v7 v9) fun v10 =>
 bnd (oIndexPtrA 4 1 v0 v4) fun v11 =>
 beff (oStore base 1 h3 v11 v10) fun v12 h13 =>
 bnd (oLoad true 4 h13 v0) fun v14 =>
 beff (oStore base 4 h13 v2 v14) fun v15 h16 =>
 bnd (oLoad true 4 h16 v2) fun v17 =>
 rt false base v17 h16 := by kernel_rfl
theorem ref01_with_E (t0 t1 : V) (H : Heap) : E n_ref01_with [t0, t1] H = ref01_with H.length t0 t1 H := (EV_at Tryd.func31 (by kernel_rfl) (by kernel_rfl) (by kernel_rfl)).trans (by kernel_rfl)

def slices_ContainsFunc_api_Re_api_Re_c : Code := bodyOf Tryd.f32
def slices_ContainsFunc_api_Re_api_Re_ks : Ks := []
def slices_ContainsFunc_api_Re_api_Re_e (base : Nat) : KC (Out × Heap) := xEnd Tryd.prog D false base 9 Tryd.f32.results.toList
def slices_ContainsFunc_api_Re_api_Re_C (base : Nat) (c : Code) (k : KC (Out × Heap)) (t : Ts) (H : Heap) (d : Ds) : Option (Out × Heap) := xC Tryd.prog base true slices_ContainsFunc_api_Re_api_Re_ks E 9 c k t H d
def slices_ContainsFunc_api_Re_api_Re (base : Nat) (t0 t1 : V) (H : Heap) : Option (Out × Heap) := slices_ContainsFunc_api_Re_api_Re_C base slices_ContainsFunc_api_Re_api_Re_c (slices_ContainsFunc_api_Re_api_Re_e base) [(0, t0), (1, t1)] H []
theorem slices_ContainsFunc_api_Re_api_Re_eq (base : Nat) (t0 t1 : V) (H : Heap) : slices_ContainsFunc_api_Re_api_Re base t0 t1 H =
 bcall (E n_slices_IndexFunc_api_Re_api_Re [t0, t1] H) (fun v0 h1 =>
 bnd (oBin .geq 6 v0 (.int .i64 0)) fun v2 =>
 rt false base v2 h1)
 (fun v0 h1 => pn false base v0 h1) := by kernel_rfl
theorem slices_ContainsFunc_api_Re_api_Re_E (t0 t1 : V) (H : Heap) : E n_slices_ContainsFunc_api_Re_api_Re [t0, t1] H = slices_ContainsFunc_api_Re_api_Re H.length t0 t1 H := (EV_at Tryd.func32 (by kernel_rfl) (by kernel_rfl) (by kernel_rfl)).trans (by kernel_rfl)

def regex_Right_1_c : Code := bodyOf Tryd.f33
def regex_Right_1_ks : Ks := []
def regex_Right_1_e (base : Nat) : KC (Out × Heap) := xEnd Tryd.prog D false base 6 Tryd.f33.results.toList
def regex_Right_1_C (base : Nat) (c : Code) (k : KC (Out × Heap)) (t : Ts) (H : Heap) (d : Ds) : Option (Out × Heap) := xC Tryd.prog base false regex_Right_1_ks E 6 c k t H d
def regex_Right_1 (base : Nat) (t0 : V) (H : Heap) : Option (Out × Heap) := regex_Right_1_C base regex_Right_1_c (regex_Right_1_e base) [(0, t0)] H []
theorem regex_Right_1_eq (base : Nat) (t0 : V) (H : Heap) : regex_Right_1 base t0 H =
 beff (oVar H t0) fun v0 h1 =>
 bnd (oLoad true 6 h1 v0) fun v2 =>
 bcall (E n_regex_Right [v2] h1) (fun v3 h4 =>
 bnd (oUn .not v3) fun v5 =>
 rt false base v5 h4)
 (fun v3 h4 => pn false base v3 h4) := by kernel_rfl
theorem regex_Right_1_E (t0 : V) (H : Heap) : E n_regex_Right_1 [t0] H = regex_Right_1 H.length t0 H := (EV_at Tryd.func33 (by kernel_rfl) (by kernel_rfl) (by kernel_rfl)).trans (by kernel_rfl)

def regex_same_c : Code := bodyOf Tryd.f34
def regex_same_ks : Ks := []
def regex_same_e (base : Nat) : KC (Out × Heap) := xEnd Tryd.prog D false base 24 Tryd.f34.results.toList
def regex_same_C (base : Nat) (c : Code) (k : KC (Out × Heap)) (t : Ts) (H : Heap) (d : Ds) : Option (Out × Heap) := xC Tryd.prog base false regex_same_ks E 24 c k t H d
def regex_same (base : Nat) (t0 t1 : V) (H : Heap) : Option (Out × Heap) := regex_same_C base regex_same_c (regex_same_e base) [(0, t0), (1, t1)] H []
theorem regex_same_eq (base : Nat) (t0 t1 : V) (H : Heap) : regex_same base t0 t1 H =
 beff (oVar H t0) fun v0 h1 =>
 beff (oVar h1 t1) fun v2 h3 =>
 bnd (oFieldPtr v0 0) fun v4 =>
 bnd (oLoad false 1 h3 v4) fun v5 =>
 bnd (oFieldPtr v2 0) fun v6 =>
 bnd (oLoad false 1 h3 v6) fun v7 =>
 bnd (oBin .eql 6 v5 v7) fun v8 =>
 bnd (gua v8 true (oFieldPtr v0 1) (some (.tup []))) fun v9 =>
 bnd (gua v8 true (oLoad true 4 h3 v9) (some (.tup []))) fun v10 =>
 bnd (gua v8 true (oFieldPtr v2 1) (some (.tup []))) fun v11 =>
 bnd (gua v8 true (oLoad true 4 h3 v11) (some (.tup []))) fun v12 =>
 bnd (gua v8 true (oBin .eql 46 v10 v12) (some (.tup []))) fun v13 =>
 bnd (oPick v8 v13 (.bool false)) fun v14 =>
 bnd (gua v14 true (oFieldPtr v0 5) (some (.tup []))) fun v15 =>
 bnd (gua v14 true (oLoad false 1 h3 v15) (some (.tup []))) fun v16 =>
 bnd (gua v14 true (oFieldPtr v2 5) (some (.tup []))) fun v17 =>
 bnd (gua v14 true (oLoad false 1 h3 v17) (some (.tup []))) fun v18 =>
 bcall (gua v14 true (E n_slices_EqualFunc_api_Re_api_Re_api_Re_api_Re [v16, v18, (.fn n_regex_same [])] h3) (some (.ret (.tup []), h3))) (fun v19 h20 =>
 bnd (oPick v14 v19 (.bool false)) fun v21 =>
 rt false base v21 h20)
 (fun v19 h20 => pn false base v19 h20) := by kernel_rfl
theorem regex_same_E (t0 t1 : V) (H : Heap) : E n_regex_same [t0, t1] H = regex_same H.length t0 t1 H := (EV_at Tryd.func34 (by kernel_rfl) (by kernel_rfl) (by kernel_rfl)).trans (by kernel_rfl)

def regex_flat_c : Code := bodyOf Tryd.f35
def regex_flat_ks : Ks := [(2, [1, 4, 7, 8, 9]), (7, [1, 4, 7, 8, 9])]
def regex_flat_e (base : Nat) : KC (Out × Heap) := xEnd Tryd.prog D true base 27 Tryd.f35.results.toList
def regex_flat_C (base : Nat) (c : Code) (k : KC (Out × Heap)) (t : Ts) (H : Heap) (d : Ds) : Option (Out × Heap) := xC Tryd.prog base false regex_flat_ks E 27 c k t H d
def regex_flat_l1 (base : Nat) (t1 t4 t7 t8 t9 : V) (H : Heap) : Option (Out × Heap) :=
iterL (fun t H d again => regex_flat_C base (cAt [1, 0, 1, 0, 0] regex_flat_c) (loopK regex_flat_ks (cAt [1, 0, 1, 0, 0] regex_flat_c) again ((blockK 0 ((seqK (fun _ t => regex_flat_C base (cAt [1, 1] regex_flat_c) (regex_flat_e base) (trimA regex_flat_ks (cAt [1, 1] regex_flat_c) t)) (regex_flat_e base)))))) t H d) [(1, t1), (4, t4), (7, t7), (8, t8), (9, t9)] H []
def regex_flat_j2 (base : Nat) (t1 t4 t7 t8 t9 : V) (H : Heap) : Option (Out × Heap) :=
regex_flat_C base (cAt [1, 0, 1, 0, 0, 1, 1, 1] regex_flat_c) ((loopK regex_flat_ks (cAt [1, 0, 1, 0, 0] regex_flat_c) (iterL (fun t H d again => regex_flat_C base (cAt [1, 0, 1, 0, 0] regex_flat_c) (loopK regex_flat_ks (cAt [1, 0, 1, 0, 0] regex_flat_c) again ((blockK 0 ((seqK (fun _ t => regex_flat_C base (cAt [1, 1] regex_flat_c) (regex_flat_e base) (trimA regex_flat_ks (cAt [1, 1] regex_flat_c) t)) (regex_flat_e base)))))) t H d)) ((blockK 0 ((seqK (fun _ t => regex_flat_C base (cAt [1, 1] regex_flat_c) (regex_flat_e base) (trimA regex_flat_ks (cAt [1, 1] regex_flat_c) t)) (regex_flat_e base))))))) [(1, t1), (4, t4), (7, t7), (8, t8), (9, t9)] H []
theorem regex_flat_j2_eq (base : Nat) (t1 t4 t7 t8 t9 : V) (H : Heap) : regex_flat_j2 base t1 t4 t7 t8 t9 H =
 bnd (oBin .add 6 t9 (.int .i64 1)) fun v15 =>
 regex_flat_l1 base t1 t4 t7 t8 v15 H := by kernel_rfl
theorem regex_flat_l1_eq (base : Nat) (t1 t4 t7 t8 t9 : V) (H : Heap) : regex_flat_l1 base t1 t4 t7 t8 t9 H =
 bnd (oBin .lss 6 t9 t8) fun v1 =>
 cnd v1
 (bnd (oIndexPtr 6 t7 t9) fun v2 =>
 bnd (oLoad true 6 H v2) fun v3 =>
 beff (oVar H (.agg [(.int .i64 0), (.int .u64 0), (.int .u64 0), (.int .u64 0), (.int .u64 0), .nils])) fun v4 h5 =>
 beff (oStore base 6 h5 v4 v3) fun v6 h7 =>
 bnd (oFieldPtr v4 0) fun v8 =>
 bnd (oLoad false 1 h7 v8) fun v9 =>
 bnd (oBin .eql 6 v9 t1) fun v10 =>
 cnd v10
 (bnd (oFieldPtr v4 5) fun v11 =>
 bnd (oLoad false 1 h7 v11) fun v12 =>
 beff (oAppend base 6 64 true t4 v12 h7) fun v13 h14 =>
 regex_flat_j2 base t1 v13 t7 t8 t9 h14)
 (bnd (oLoad true 6 h7 v4) fun v16 =>
 bnd (oLit 6 1 (.agg [(.int .i64 0), (.int .u64 0), (.int .u64 0), (.int .u64 0), (.int .u64 0), (.vs [])]) [(0, v16)]) fun v17 =>
 beff (oAppend base 6 64 true t4 v17 h7) fun v18 h19 =>
 regex_flat_j2 base t1 v18 t7 t8 t9 h19))
 (rt true base t4 H) := (loop_eq (cAt [1, 0, 1, 0, 0] regex_flat_c) ((blockK 0 ((seqK (fun _ t => regex_flat_C base (cAt [1, 1] regex_flat_c) (regex_flat_e base) (trimA regex_flat_ks (cAt [1, 1] regex_flat_c) t)) (regex_flat_e base))))) _ H []).trans (by kernel_rfl)
def regex_flat (base : Nat) (t0 t1 : V) (H : Heap) : Option (Out × Heap) := regex_flat_C base regex_flat_c (regex_flat_e base) [(0, t0), (1, t1)] H []
theorem regex_flat_eq (base : Nat) (t0 t1 : V) (H : Heap) : regex_flat base t0 t1 H =
 bnd (oLenSl t0) fun v0 =>
 regex_flat_l1 base t1 .nils t0 v0 (.int .i64 0) H := by kernel_rfl
theorem regex_flat_E (t0 t1 : V) (H : Heap) : E n_regex_flat [t0, t1] H = regex_flat H.length t0 t1 H := (EV_at Tryd.func35 (by kernel_rfl) (by kernel_rfl) (by kernel_rfl)).trans (by kernel_rfl)

def regex_is_c : Code := bodyOf Tryd.f36
def regex_is_ks : Ks := []
def regex_is_e (base : Nat) : KC (Out × Heap) := xEnd Tryd.prog D false base 4 Tryd.f36.results.toList
def regex_is_C (base : Nat) (c : Code) (k : KC (Out × Heap)) (t : Ts) (H : Heap) (d : Ds) : Option (Out × Heap) := xC Tryd.prog base false regex_is_ks E 4 c k t H d
def regex_is (base : Nat) (t0 : V) (H : Heap) : Option (Out × Heap) := regex_is_C base regex_is_c (regex_is_e base) [(0, t0)] H []
theorem regex_is_eq (base : Nat) (t0 : V) (H : Heap) : regex_is base t0 H =
 beff (oVar H t0) fun v0 h1 =>
 bnd (oMkFn n_regex_is_1 [v0]) fun v2 =>
 rt false base v2 h1 := by kernel_rfl
theorem regex_is_E (t0 : V) (H : Heap) : E n_regex_is [t0] H = regex_is H.length t0 H := (EV_at Tryd.func36 (by kernel_rfl) (by kernel_rfl) (by kernel_rfl)).trans (by kernel_rfl)

def regex_of_c : Code := bodyOf Tryd.f37
def regex_of_ks : Ks := []
def regex_of_e (base : Nat) : KC (Out × Heap) := xEnd Tryd.prog D false base 21 Tryd.f37.results.toList
def regex_of_C (base : Nat) (c : Code) (k : KC (Out × Heap)) (t : Ts) (H : Heap) (d : Ds) : Option (Out × Heap) := xC Tryd.prog base false regex_of_ks E 21 c k t H d
def regex_of (base : Nat) (t0 t1 t2 : V) (H : Heap) : Option (Out × Heap) := regex_of_C base regex_of_c (regex_of_e base) [(0, t0), (1, t1), (2, t2)] H []
theorem regex_of_eq (base : Nat) (t0 t1 t2 : V) (H : Heap) : regex_of base t0 t1 t2 H =
 beff (oVar H (.agg [(.int .i64 0), (.int .u64 0), (.int .u64 0), (.int .u64 0), (.int .u64 0), .nils])) fun v0 h1 =>
 bnd (oLenSl t0) fun v2 =>
 bnd (oBin .eql 6 v2 (.int .i64 0)) fun v3 =>
 cnd v3
 (bnd (oBuild [(.int .i64 0), (.int .u64 0), (.int .u64 0), (.int .u64 0), (.int .u64 0), .nils] [(0, 1), (1, 4), (5, 1)] [(0, t2)]) fun v4 =>
 beff (oStore base 6 h1 v0 v4) fun v5 h6 =>
 bnd (oLoad true 6 h6 v0) fun v7 =>
 rt false base v7 h6)
 (bnd (oBin .eql 6 v2 (.int .i64 1)) fun v8 =>
 cnd v8
 (bnd (oIndexPtr 6 t0 (.int .i64 0)) fun v9 =>
 bnd (oLoad true 6 h1 v9) fun v10 =>
 beff (oStore base 6 h1 v0 v10) fun v11 h12 =>
 bnd (oLoad true 6 h12 v0) fun v13 =>
 rt false base v13 h12)
 (bnd (oBuild [(.int .i64 0), (.int .u64 0), (.int .u64 0), (.int .u64 0), (.int .u64 0), .nils] [(0, 1), (1, 4), (5, 1)] [(0, t1), (2, t0)]) fun v14 =>
 beff (oStore base 6 h1 v0 v14) fun v15 h16 =>
 bnd (oLoad true 6 h16 v0) fun v17 =>
 rt false base v17 h16)) := by kernel_rfl
theorem regex_of_E (t0 t1 t2 : V) (H : Heap) : E n_regex_of [t0, t1, t2] H = regex_of H.length t0 t1 t2 H := (EV_at Tryd.func37 (by kernel_rfl) (by kernel_rfl) (by kernel_rfl)).trans (by kernel_rfl)
end
end Go.Proofs.YtjnkigaiogjfcaaDoor
end

