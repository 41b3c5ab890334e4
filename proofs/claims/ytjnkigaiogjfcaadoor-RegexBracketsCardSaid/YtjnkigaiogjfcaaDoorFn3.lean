/- Fn3: a part of the proof that each law of this seat answers true at every input. No condition. -/
import Derived.Test.YtjnkigaiogjfcaaDoorHint
import Derived.KernelRfl
set_option linter.unusedVariables false
set_option linter.unusedSimpArgs false
set_option maxRecDepth 20000
section
/- Printed: what functions do. -/
namespace Go.Proofs.YtjnkigaiogjfcaaDoor
open Go Go.Ev
set_option linter.unusedVariables false
noncomputable section

def slices_CompactFunc_api_Re_api_Re_c : Code := bodyOf Tryd.f44
def slices_CompactFunc_api_Re_api_Re_ks : Ks := [(4, [0, 1, 5]), (9, [0, 1, 5, 6, 7]), (10, [0, 1, 5, 6, 7])]
def slices_CompactFunc_api_Re_api_Re_e (base : Nat) : KC (Out × Heap) := xEnd Tryd.prog D false base 66 Tryd.f44.results.toList
def slices_CompactFunc_api_Re_api_Re_C (base : Nat) (c : Code) (k : KC (Out × Heap)) (t : Ts) (H : Heap) (d : Ds) : Option (Out × Heap) := xC Tryd.prog base true slices_CompactFunc_api_Re_api_Re_ks E 66 c k t H d
def slices_CompactFunc_api_Re_api_Re_l1 (base : Nat) (t0 t1 t5 : V) (H : Heap) : Option (Out × Heap) :=
iterL (fun t H d again => slices_CompactFunc_api_Re_api_Re_C base (cAt [1, 1, 0, 1, 0, 0] slices_CompactFunc_api_Re_api_Re_c) (loopK slices_CompactFunc_api_Re_api_Re_ks (cAt [1, 1, 0, 1, 0, 0] slices_CompactFunc_api_Re_api_Re_c) again ((blockK 0 ((seqK (fun _ t => slices_CompactFunc_api_Re_api_Re_C base (cAt [1, 1, 1] slices_CompactFunc_api_Re_api_Re_c) (slices_CompactFunc_api_Re_api_Re_e base) (trimA slices_CompactFunc_api_Re_api_Re_ks (cAt [1, 1, 1] slices_CompactFunc_api_Re_api_Re_c) t)) (slices_CompactFunc_api_Re_api_Re_e base)))))) t H d) [(0, t0), (1, t1), (5, t5)] H []
def slices_CompactFunc_api_Re_api_Re_l2 (base : Nat) (t0 t1 t5 t6 t7 : V) (H : Heap) : Option (Out × Heap) :=
iterL (fun t H d again => slices_CompactFunc_api_Re_api_Re_C base (cAt [1, 1, 0, 1, 0, 0, 1, 0, 0, 1, 0, 1, 0, 1, 0, 0] slices_CompactFunc_api_Re_api_Re_c) (loopK slices_CompactFunc_api_Re_api_Re_ks (cAt [1, 1, 0, 1, 0, 0, 1, 0, 0, 1, 0, 1, 0, 1, 0, 0] slices_CompactFunc_api_Re_api_Re_c) again ((blockK 2 ((seqK (fun _ t => slices_CompactFunc_api_Re_api_Re_C base (cAt [1, 1, 0, 1, 0, 0, 1, 0, 0, 1, 0, 1, 1] slices_CompactFunc_api_Re_api_Re_c) ((blockK 1 ((seqK (fun _ t => slices_CompactFunc_api_Re_api_Re_C base (cAt [1, 1, 0, 1, 0, 0, 1, 1] slices_CompactFunc_api_Re_api_Re_c) ((loopK slices_CompactFunc_api_Re_api_Re_ks (cAt [1, 1, 0, 1, 0, 0] slices_CompactFunc_api_Re_api_Re_c) (iterL (fun t H d again => slices_CompactFunc_api_Re_api_Re_C base (cAt [1, 1, 0, 1, 0, 0] slices_CompactFunc_api_Re_api_Re_c) (loopK slices_CompactFunc_api_Re_api_Re_ks (cAt [1, 1, 0, 1, 0, 0] slices_CompactFunc_api_Re_api_Re_c) again ((blockK 0 ((seqK (fun _ t => slices_CompactFunc_api_Re_api_Re_C base (cAt [1, 1, 1] slices_CompactFunc_api_Re_api_Re_c) (slices_CompactFunc_api_Re_api_Re_e base) (trimA slices_CompactFunc_api_Re_api_Re_ks (cAt [1, 1, 1] slices_CompactFunc_api_Re_api_Re_c) t)) (slices_CompactFunc_api_Re_api_Re_e base)))))) t H d)) ((blockK 0 ((seqK (fun _ t => slices_CompactFunc_api_Re_api_Re_C base (cAt [1, 1, 1] slices_CompactFunc_api_Re_api_Re_c) (slices_CompactFunc_api_Re_api_Re_e base) (trimA slices_CompactFunc_api_Re_api_Re_ks (cAt [1, 1, 1] slices_CompactFunc_api_Re_api_Re_c) t)) (slices_CompactFunc_api_Re_api_Re_e base))))))) (trimA slices_CompactFunc_api_Re_api_Re_ks (cAt [1, 1, 0, 1, 0, 0, 1, 1] slices_CompactFunc_api_Re_api_Re_c) t)) ((loopK slices_CompactFunc_api_Re_api_Re_ks (cAt [1, 1, 0, 1, 0, 0] slices_CompactFunc_api_Re_api_Re_c) (iterL (fun t H d again => slices_CompactFunc_api_Re_api_Re_C base (cAt [1, 1, 0, 1, 0, 0] slices_CompactFunc_api_Re_api_Re_c) (loopK slices_CompactFunc_api_Re_api_Re_ks (cAt [1, 1, 0, 1, 0, 0] slices_CompactFunc_api_Re_api_Re_c) again ((blockK 0 ((seqK (fun _ t => slices_CompactFunc_api_Re_api_Re_C base (cAt [1, 1, 1] slices_CompactFunc_api_Re_api_Re_c) (slices_CompactFunc_api_Re_api_Re_e base) (trimA slices_CompactFunc_api_Re_api_Re_ks (cAt [1, 1, 1] slices_CompactFunc_api_Re_api_Re_c) t)) (slices_CompactFunc_api_Re_api_Re_e base)))))) t H d)) ((blockK 0 ((seqK (fun _ t => slices_CompactFunc_api_Re_api_Re_C base (cAt [1, 1, 1] slices_CompactFunc_api_Re_api_Re_c) (slices_CompactFunc_api_Re_api_Re_e base) (trimA slices_CompactFunc_api_Re_api_Re_ks (cAt [1, 1, 1] slices_CompactFunc_api_Re_api_Re_c) t)) (slices_CompactFunc_api_Re_api_Re_e base))))))))))) (trimA slices_CompactFunc_api_Re_api_Re_ks (cAt [1, 1, 0, 1, 0, 0, 1, 0, 0, 1, 0, 1, 1] slices_CompactFunc_api_Re_api_Re_c) t)) ((blockK 1 ((seqK (fun _ t => slices_CompactFunc_api_Re_api_Re_C base (cAt [1, 1, 0, 1, 0, 0, 1, 1] slices_CompactFunc_api_Re_api_Re_c) ((loopK slices_CompactFunc_api_Re_api_Re_ks (cAt [1, 1, 0, 1, 0, 0] slices_CompactFunc_api_Re_api_Re_c) (iterL (fun t H d again => slices_CompactFunc_api_Re_api_Re_C base (cAt [1, 1, 0, 1, 0, 0] slices_CompactFunc_api_Re_api_Re_c) (loopK slices_CompactFunc_api_Re_api_Re_ks (cAt [1, 1, 0, 1, 0, 0] slices_CompactFunc_api_Re_api_Re_c) again ((blockK 0 ((seqK (fun _ t => slices_CompactFunc_api_Re_api_Re_C base (cAt [1, 1, 1] slices_CompactFunc_api_Re_api_Re_c) (slices_CompactFunc_api_Re_api_Re_e base) (trimA slices_CompactFunc_api_Re_api_Re_ks (cAt [1, 1, 1] slices_CompactFunc_api_Re_api_Re_c) t)) (slices_CompactFunc_api_Re_api_Re_e base)))))) t H d)) ((blockK 0 ((seqK (fun _ t => slices_CompactFunc_api_Re_api_Re_C base (cAt [1, 1, 1] slices_CompactFunc_api_Re_api_Re_c) (slices_CompactFunc_api_Re_api_Re_e base) (trimA slices_CompactFunc_api_Re_api_Re_ks (cAt [1, 1, 1] slices_CompactFunc_api_Re_api_Re_c) t)) (slices_CompactFunc_api_Re_api_Re_e base))))))) (trimA slices_CompactFunc_api_Re_api_Re_ks (cAt [1, 1, 0, 1, 0, 0, 1, 1] slices_CompactFunc_api_Re_api_Re_c) t)) ((loopK slices_CompactFunc_api_Re_api_Re_ks (cAt [1, 1, 0, 1, 0, 0] slices_CompactFunc_api_Re_api_Re_c) (iterL (fun t H d again => slices_CompactFunc_api_Re_api_Re_C base (cAt [1, 1, 0, 1, 0, 0] slices_CompactFunc_api_Re_api_Re_c) (loopK slices_CompactFunc_api_Re_api_Re_ks (cAt [1, 1, 0, 1, 0, 0] slices_CompactFunc_api_Re_api_Re_c) again ((blockK 0 ((seqK (fun _ t => slices_CompactFunc_api_Re_api_Re_C base (cAt [1, 1, 1] slices_CompactFunc_api_Re_api_Re_c) (slices_CompactFunc_api_Re_api_Re_e base) (trimA slices_CompactFunc_api_Re_api_Re_ks (cAt [1, 1, 1] slices_CompactFunc_api_Re_api_Re_c) t)) (slices_CompactFunc_api_Re_api_Re_e base)))))) t H d)) ((blockK 0 ((seqK (fun _ t => slices_CompactFunc_api_Re_api_Re_C base (cAt [1, 1, 1] slices_CompactFunc_api_Re_api_Re_c) (slices_CompactFunc_api_Re_api_Re_e base) (trimA slices_CompactFunc_api_Re_api_Re_ks (cAt [1, 1, 1] slices_CompactFunc_api_Re_api_Re_c) t)) (slices_CompactFunc_api_Re_api_Re_e base)))))))))))))))) t H d) [(0, t0), (1, t1), (5, t5), (6, t6), (7, t7)] H []
def slices_CompactFunc_api_Re_api_Re_j3 (base : Nat) (t0 t1 t5 t6 t7 : V) (H : Heap) : Option (Out × Heap) :=
slices_CompactFunc_api_Re_api_Re_C base (cAt [1, 1, 0, 1, 0, 0, 1, 0, 0, 1, 0, 1, 0, 1, 0, 0, 1, 1] slices_CompactFunc_api_Re_api_Re_c) ((loopK slices_CompactFunc_api_Re_api_Re_ks (cAt [1, 1, 0, 1, 0, 0, 1, 0, 0, 1, 0, 1, 0, 1, 0, 0] slices_CompactFunc_api_Re_api_Re_c) (iterL (fun t H d again => slices_CompactFunc_api_Re_api_Re_C base (cAt [1, 1, 0, 1, 0, 0, 1, 0, 0, 1, 0, 1, 0, 1, 0, 0] slices_CompactFunc_api_Re_api_Re_c) (loopK slices_CompactFunc_api_Re_api_Re_ks (cAt [1, 1, 0, 1, 0, 0, 1, 0, 0, 1, 0, 1, 0, 1, 0, 0] slices_CompactFunc_api_Re_api_Re_c) again ((blockK 2 ((seqK (fun _ t => slices_CompactFunc_api_Re_api_Re_C base (cAt [1, 1, 0, 1, 0, 0, 1, 0, 0, 1, 0, 1, 1] slices_CompactFunc_api_Re_api_Re_c) ((blockK 1 ((seqK (fun _ t => slices_CompactFunc_api_Re_api_Re_C base (cAt [1, 1, 0, 1, 0, 0, 1, 1] slices_CompactFunc_api_Re_api_Re_c) ((loopK slices_CompactFunc_api_Re_api_Re_ks (cAt [1, 1, 0, 1, 0, 0] slices_CompactFunc_api_Re_api_Re_c) (iterL (fun t H d again => slices_CompactFunc_api_Re_api_Re_C base (cAt [1, 1, 0, 1, 0, 0] slices_CompactFunc_api_Re_api_Re_c) (loopK slices_CompactFunc_api_Re_api_Re_ks (cAt [1, 1, 0, 1, 0, 0] slices_CompactFunc_api_Re_api_Re_c) again ((blockK 0 ((seqK (fun _ t => slices_CompactFunc_api_Re_api_Re_C base (cAt [1, 1, 1] slices_CompactFunc_api_Re_api_Re_c) (slices_CompactFunc_api_Re_api_Re_e base) (trimA slices_CompactFunc_api_Re_api_Re_ks (cAt [1, 1, 1] slices_CompactFunc_api_Re_api_Re_c) t)) (slices_CompactFunc_api_Re_api_Re_e base)))))) t H d)) ((blockK 0 ((seqK (fun _ t => slices_CompactFunc_api_Re_api_Re_C base (cAt [1, 1, 1] slices_CompactFunc_api_Re_api_Re_c) (slices_CompactFunc_api_Re_api_Re_e base) (trimA slices_CompactFunc_api_Re_api_Re_ks (cAt [1, 1, 1] slices_CompactFunc_api_Re_api_Re_c) t)) (slices_CompactFunc_api_Re_api_Re_e base))))))) (trimA slices_CompactFunc_api_Re_api_Re_ks (cAt [1, 1, 0, 1, 0, 0, 1, 1] slices_CompactFunc_api_Re_api_Re_c) t)) ((loopK slices_CompactFunc_api_Re_api_Re_ks (cAt [1, 1, 0, 1, 0, 0] slices_CompactFunc_api_Re_api_Re_c) (iterL (fun t H d again => slices_CompactFunc_api_Re_api_Re_C base (cAt [1, 1, 0, 1, 0, 0] slices_CompactFunc_api_Re_api_Re_c) (loopK slices_CompactFunc_api_Re_api_Re_ks (cAt [1, 1, 0, 1, 0, 0] slices_CompactFunc_api_Re_api_Re_c) again ((blockK 0 ((seqK (fun _ t => slices_CompactFunc_api_Re_api_Re_C base (cAt [1, 1, 1] slices_CompactFunc_api_Re_api_Re_c) (slices_CompactFunc_api_Re_api_Re_e base) (trimA slices_CompactFunc_api_Re_api_Re_ks (cAt [1, 1, 1] slices_CompactFunc_api_Re_api_Re_c) t)) (slices_CompactFunc_api_Re_api_Re_e base)))))) t H d)) ((blockK 0 ((seqK (fun _ t => slices_CompactFunc_api_Re_api_Re_C base (cAt [1, 1, 1] slices_CompactFunc_api_Re_api_Re_c) (slices_CompactFunc_api_Re_api_Re_e base) (trimA slices_CompactFunc_api_Re_api_Re_ks (cAt [1, 1, 1] slices_CompactFunc_api_Re_api_Re_c) t)) (slices_CompactFunc_api_Re_api_Re_e base))))))))))) (trimA slices_CompactFunc_api_Re_api_Re_ks (cAt [1, 1, 0, 1, 0, 0, 1, 0, 0, 1, 0, 1, 1] slices_CompactFunc_api_Re_api_Re_c) t)) ((blockK 1 ((seqK (fun _ t => slices_CompactFunc_api_Re_api_Re_C base (cAt [1, 1, 0, 1, 0, 0, 1, 1] slices_CompactFunc_api_Re_api_Re_c) ((loopK slices_CompactFunc_api_Re_api_Re_ks (cAt [1, 1, 0, 1, 0, 0] slices_CompactFunc_api_Re_api_Re_c) (iterL (fun t H d again => slices_CompactFunc_api_Re_api_Re_C base (cAt [1, 1, 0, 1, 0, 0] slices_CompactFunc_api_Re_api_Re_c) (loopK slices_CompactFunc_api_Re_api_Re_ks (cAt [1, 1, 0, 1, 0, 0] slices_CompactFunc_api_Re_api_Re_c) again ((blockK 0 ((seqK (fun _ t => slices_CompactFunc_api_Re_api_Re_C base (cAt [1, 1, 1] slices_CompactFunc_api_Re_api_Re_c) (slices_CompactFunc_api_Re_api_Re_e base) (trimA slices_CompactFunc_api_Re_api_Re_ks (cAt [1, 1, 1] slices_CompactFunc_api_Re_api_Re_c) t)) (slices_CompactFunc_api_Re_api_Re_e base)))))) t H d)) ((blockK 0 ((seqK (fun _ t => slices_CompactFunc_api_Re_api_Re_C base (cAt [1, 1, 1] slices_CompactFunc_api_Re_api_Re_c) (slices_CompactFunc_api_Re_api_Re_e base) (trimA slices_CompactFunc_api_Re_api_Re_ks (cAt [1, 1, 1] slices_CompactFunc_api_Re_api_Re_c) t)) (slices_CompactFunc_api_Re_api_Re_e base))))))) (trimA slices_CompactFunc_api_Re_api_Re_ks (cAt [1, 1, 0, 1, 0, 0, 1, 1] slices_CompactFunc_api_Re_api_Re_c) t)) ((loopK slices_CompactFunc_api_Re_api_Re_ks (cAt [1, 1, 0, 1, 0, 0] slices_CompactFunc_api_Re_api_Re_c) (iterL (fun t H d again => slices_CompactFunc_api_Re_api_Re_C base (cAt [1, 1, 0, 1, 0, 0] slices_CompactFunc_api_Re_api_Re_c) (loopK slices_CompactFunc_api_Re_api_Re_ks (cAt [1, 1, 0, 1, 0, 0] slices_CompactFunc_api_Re_api_Re_c) again ((blockK 0 ((seqK (fun _ t => slices_CompactFunc_api_Re_api_Re_C base (cAt [1, 1, 1] slices_CompactFunc_api_Re_api_Re_c) (slices_CompactFunc_api_Re_api_Re_e base) (trimA slices_CompactFunc_api_Re_api_Re_ks (cAt [1, 1, 1] slices_CompactFunc_api_Re_api_Re_c) t)) (slices_CompactFunc_api_Re_api_Re_e base)))))) t H d)) ((blockK 0 ((seqK (fun _ t => slices_CompactFunc_api_Re_api_Re_C base (cAt [1, 1, 1] slices_CompactFunc_api_Re_api_Re_c) (slices_CompactFunc_api_Re_api_Re_e base) (trimA slices_CompactFunc_api_Re_api_Re_ks (cAt [1, 1, 1] slices_CompactFunc_api_Re_api_Re_c) t)) (slices_CompactFunc_api_Re_api_Re_e base)))))))))))))))) t H d)) ((blockK 2 ((seqK (fun _ t => slices_CompactFunc_api_Re_api_Re_C base (cAt [1, 1, 0, 1, 0, 0, 1, 0, 0, 1, 0, 1, 1] slices_CompactFunc_api_Re_api_Re_c) ((blockK 1 ((seqK (fun _ t => slices_CompactFunc_api_Re_api_Re_C base (cAt [1, 1, 0, 1, 0, 0, 1, 1] slices_CompactFunc_api_Re_api_Re_c) ((loopK slices_CompactFunc_api_Re_api_Re_ks (cAt [1, 1, 0, 1, 0, 0] slices_CompactFunc_api_Re_api_Re_c) (iterL (fun t H d again => slices_CompactFunc_api_Re_api_Re_C base (cAt [1, 1, 0, 1, 0, 0] slices_CompactFunc_api_Re_api_Re_c) (loopK slices_CompactFunc_api_Re_api_Re_ks (cAt [1, 1, 0, 1, 0, 0] slices_CompactFunc_api_Re_api_Re_c) again ((blockK 0 ((seqK (fun _ t => slices_CompactFunc_api_Re_api_Re_C base (cAt [1, 1, 1] slices_CompactFunc_api_Re_api_Re_c) (slices_CompactFunc_api_Re_api_Re_e base) (trimA slices_CompactFunc_api_Re_api_Re_ks (cAt [1, 1, 1] slices_CompactFunc_api_Re_api_Re_c) t)) (slices_CompactFunc_api_Re_api_Re_e base)))))) t H d)) ((blockK 0 ((seqK (fun _ t => slices_CompactFunc_api_Re_api_Re_C base (cAt [1, 1, 1] slices_CompactFunc_api_Re_api_Re_c) (slices_CompactFunc_api_Re_api_Re_e base) (trimA slices_CompactFunc_api_Re_api_Re_ks (cAt [1, 1, 1] slices_CompactFunc_api_Re_api_Re_c) t)) (slices_CompactFunc_api_Re_api_Re_e base))))))) (trimA slices_CompactFunc_api_Re_api_Re_ks (cAt [1, 1, 0, 1, 0, 0, 1, 1] slices_CompactFunc_api_Re_api_Re_c) t)) ((loopK slices_CompactFunc_api_Re_api_Re_ks (cAt [1, 1, 0, 1, 0, 0] slices_CompactFunc_api_Re_api_Re_c) (iterL (fun t H d again => slices_CompactFunc_api_Re_api_Re_C base (cAt [1, 1, 0, 1, 0, 0] slices_CompactFunc_api_Re_api_Re_c) (loopK slices_CompactFunc_api_Re_api_Re_ks (cAt [1, 1, 0, 1, 0, 0] slices_CompactFunc_api_Re_api_Re_c) again ((blockK 0 ((seqK (fun _ t => slices_CompactFunc_api_Re_api_Re_C base (cAt [1, 1, 1] slices_CompactFunc_api_Re_api_Re_c) (slices_CompactFunc_api_Re_api_Re_e base) (trimA slices_CompactFunc_api_Re_api_Re_ks (cAt [1, 1, 1] slices_CompactFunc_api_Re_api_Re_c) t)) (slices_CompactFunc_api_Re_api_Re_e base)))))) t H d)) ((blockK 0 ((seqK (fun _ t => slices_CompactFunc_api_Re_api_Re_C base (cAt [1, 1, 1] slices_CompactFunc_api_Re_api_Re_c) (slices_CompactFunc_api_Re_api_Re_e base) (trimA slices_CompactFunc_api_Re_api_Re_ks (cAt [1, 1, 1] slices_CompactFunc_api_Re_api_Re_c) t)) (slices_CompactFunc_api_Re_api_Re_e base))))))))))) (trimA slices_CompactFunc_api_Re_api_Re_ks (cAt [1, 1, 0, 1, 0, 0, 1, 0, 0, 1, 0, 1, 1] slices_CompactFunc_api_Re_api_Re_c) t)) ((blockK 1 ((seqK (fun _ t => slices_CompactFunc_api_Re_api_Re_C base (cAt [1, 1, 0, 1, 0, 0, 1, 1] slices_CompactFunc_api_Re_api_Re_c) ((loopK slices_CompactFunc_api_Re_api_Re_ks (cAt [1, 1, 0, 1, 0, 0] slices_CompactFunc_api_Re_api_Re_c) (iterL (fun t H d again => slices_CompactFunc_api_Re_api_Re_C base (cAt [1, 1, 0, 1, 0, 0] slices_CompactFunc_api_Re_api_Re_c) (loopK slices_CompactFunc_api_Re_api_Re_ks (cAt [1, 1, 0, 1, 0, 0] slices_CompactFunc_api_Re_api_Re_c) again ((blockK 0 ((seqK (fun _ t => slices_CompactFunc_api_Re_api_Re_C base (cAt [1, 1, 1] slices_CompactFunc_api_Re_api_Re_c) (slices_CompactFunc_api_Re_api_Re_e base) (trimA slices_CompactFunc_api_Re_api_Re_ks (cAt [1, 1, 1] slices_CompactFunc_api_Re_api_Re_c) t)) (slices_CompactFunc_api_Re_api_Re_e base)))))) t H d)) ((blockK 0 ((seqK (fun _ t => slices_CompactFunc_api_Re_api_Re_C base (cAt [1, 1, 1] slices_CompactFunc_api_Re_api_Re_c) (slices_CompactFunc_api_Re_api_Re_e base) (trimA slices_CompactFunc_api_Re_api_Re_ks (cAt [1, 1, 1] slices_CompactFunc_api_Re_api_Re_c) t)) (slices_CompactFunc_api_Re_api_Re_e base))))))) (trimA slices_CompactFunc_api_Re_api_Re_ks (cAt [1, 1, 0, 1, 0, 0, 1, 1] slices_CompactFunc_api_Re_api_Re_c) t)) ((loopK slices_CompactFunc_api_Re_api_Re_ks (cAt [1, 1, 0, 1, 0, 0] slices_CompactFunc_api_Re_api_Re_c) (iterL (fun t H d again => slices_CompactFunc_api_Re_api_Re_C base (cAt [1, 1, 0, 1, 0, 0] slices_CompactFunc_api_Re_api_Re_c) (loopK slices_CompactFunc_api_Re_api_Re_ks (cAt [1, 1, 0, 1, 0, 0] slices_CompactFunc_api_Re_api_Re_c) again ((blockK 0 ((seqK (fun _ t => slices_CompactFunc_api_Re_api_Re_C base (cAt [1, 1, 1] slices_CompactFunc_api_Re_api_Re_c) (slices_CompactFunc_api_Re_api_Re_e base) (trimA slices_CompactFunc_api_Re_api_Re_ks (cAt [1, 1, 1] slices_CompactFunc_api_Re_api_Re_c) t)) (slices_CompactFunc_api_Re_api_Re_e base)))))) t H d)) ((blockK 0 ((seqK (fun _ t => slices_CompactFunc_api_Re_api_Re_C base (cAt [1, 1, 1] slices_CompactFunc_api_Re_api_Re_c) (slices_CompactFunc_api_Re_api_Re_e base) (trimA slices_CompactFunc_api_Re_api_Re_ks (cAt [1, 1, 1] slices_CompactFunc_api_Re_api_Re_c) t)) (slices_CompactFunc_api_Re_api_Re_e base))))))))))))))))) [(0, t0), (1, t1), (5, t5), (6, t6), (7, t7)] H []
theorem slices_CompactFunc_api_Re_api_Re_j3_eq (base : Nat) (t0 t1 t5 t6 t7 : V) (H : Heap) : slices_CompactFunc_api_Re_api_Re_j3 base t0 t1 t5 t6 t7 H =
 bnd (oBin .add 6 t7 (.int .i64 1)) fun v28 =>
 slices_CompactFunc_api_Re_api_Re_l2 base t0 t1 t5 t6 v28 H := by kernel_rfl
theorem slices_CompactFunc_api_Re_api_Re_l2_eq (base : Nat) (t0 t1 t5 t6 t7 : V) (H : Heap) : slices_CompactFunc_api_Re_api_Re_l2 base t0 t1 t5 t6 t7 H =
 bnd (oLenSl t6) fun v12 =>
 bnd (oBin .lss 6 t7 v12) fun v13 =>
 cnd v13
 (bnd (oIndexPtr 6 t6 t7) fun v14 =>
 bnd (oLoad true 6 H v14) fun v15 =>
 bnd (oBin .sub 6 t7 (.int .i64 1)) fun v16 =>
 bnd (oIndexPtr 6 t6 v16) fun v17 =>
 bnd (oLoad true 6 H v17) fun v18 =>
 bcall (oDyn E t1 [v15, v18] H) (fun v19 h20 =>
 bnd (oUn .not v19) fun v21 =>
 cnd v21
 (bnd (oIndexPtr 6 t6 t7) fun v22 =>
 bnd (oLoad true 6 h20 v22) fun v23 =>
 bnd (oIndexPtr 6 t0 t5) fun v24 =>
 beff (oStore base 6 h20 v24 v23) fun v25 h26 =>
 bnd (oBin .add 6 t5 (.int .i64 1)) fun v27 =>
 slices_CompactFunc_api_Re_api_Re_j3 base t0 t1 v27 t6 t7 h26)
 (slices_CompactFunc_api_Re_api_Re_j3 base t0 t1 t5 t6 t7 h20))
 (fun v19 h20 => pn false base v19 h20))
 (bnd (oSlice 6 t0 (some t5) none none) fun v29 =>
 beff (oClear base 6 [(.int .i64 0), (.int .u64 0), (.int .u64 0), (.int .u64 0), (.int .u64 0), .nils] v29 H) fun v30 h31 =>
 bnd (oSlice 6 t0 none (some t5) none) fun v32 =>
 rt false base v32 h31) := (loop_eq (cAt [1, 1, 0, 1, 0, 0, 1, 0, 0, 1, 0, 1, 0, 1, 0, 0] slices_CompactFunc_api_Re_api_Re_c) ((blockK 2 ((seqK (fun _ t => slices_CompactFunc_api_Re_api_Re_C base (cAt [1, 1, 0, 1, 0, 0, 1, 0, 0, 1, 0, 1, 1] slices_CompactFunc_api_Re_api_Re_c) ((blockK 1 ((seqK (fun _ t => slices_CompactFunc_api_Re_api_Re_C base (cAt [1, 1, 0, 1, 0, 0, 1, 1] slices_CompactFunc_api_Re_api_Re_c) ((loopK slices_CompactFunc_api_Re_api_Re_ks (cAt [1, 1, 0, 1, 0, 0] slices_CompactFunc_api_Re_api_Re_c) (iterL (fun t H d again => slices_CompactFunc_api_Re_api_Re_C base (cAt [1, 1, 0, 1, 0, 0] slices_CompactFunc_api_Re_api_Re_c) (loopK slices_CompactFunc_api_Re_api_Re_ks (cAt [1, 1, 0, 1, 0, 0] slices_CompactFunc_api_Re_api_Re_c) again ((blockK 0 ((seqK (fun _ t => slices_CompactFunc_api_Re_api_Re_C base (cAt [1, 1, 1] slices_CompactFunc_api_Re_api_Re_c) (slices_CompactFunc_api_Re_api_Re_e base) (trimA slices_CompactFunc_api_Re_api_Re_ks (cAt [1, 1, 1] slices_CompactFunc_api_Re_api_Re_c) t)) (slices_CompactFunc_api_Re_api_Re_e base)))))) t H d)) ((blockK 0 ((seqK (fun _ t => slices_CompactFunc_api_Re_api_Re_C base (cAt [1, 1, 1] slices_CompactFunc_api_Re_api_Re_c) (slices_CompactFunc_api_Re_api_Re_e base) (trimA slices_CompactFunc_api_Re_api_Re_ks (cAt [1, 1, 1] slices_CompactFunc_api_Re_api_Re_c) t)) (slices_CompactFunc_api_Re_api_Re_e base))))))) (trimA slices_CompactFunc_api_Re_api_Re_ks (cAt [1, 1, 0, 1, 0, 0, 1, 1] slices_CompactFunc_api_Re_api_Re_c) t)) ((loopK slices_CompactFunc_api_Re_api_Re_ks (cAt [1, 1, 0, 1, 0, 0] slices_CompactFunc_api_Re_api_Re_c) (iterL (fun t H d again => slices_CompactFunc_api_Re_api_Re_C base (cAt [1, 1, 0, 1, 0, 0] slices_CompactFunc_api_Re_api_Re_c) (loopK slices_CompactFunc_api_Re_api_Re_ks (cAt [1, 1, 0, 1, 0, 0] slices_CompactFunc_api_Re_api_Re_c) again ((blockK 0 ((seqK (fun _ t => slices_CompactFunc_api_Re_api_Re_C base (cAt [1, 1, 1] slices_CompactFunc_api_Re_api_Re_c) (slices_CompactFunc_api_Re_api_Re_e base) (trimA slices_CompactFunc_api_Re_api_Re_ks (cAt [1, 1, 1] slices_CompactFunc_api_Re_api_Re_c) t)) (slices_CompactFunc_api_Re_api_Re_e base)))))) t H d)) ((blockK 0 ((seqK (fun _ t => slices_CompactFunc_api_Re_api_Re_C base (cAt [1, 1, 1] slices_CompactFunc_api_Re_api_Re_c) (slices_CompactFunc_api_Re_api_Re_e base) (trimA slices_CompactFunc_api_Re_api_Re_ks (cAt [1, 1, 1] slices_CompactFunc_api_Re_api_Re_c) t)) (slices_CompactFunc_api_Re_api_Re_e base))))))))))) (trimA slices_CompactFunc_api_Re_api_Re_ks (cAt [1, 1, 0, 1, 0, 0, 1, 0, 0, 1, 0, 1, 1] slices_CompactFunc_api_Re_api_Re_c) t)) ((blockK 1 ((seqK (fun _ t => slices_CompactFunc_api_Re_api_Re_C base (cAt [1, 1, 0, 1, 0, 0, 1, 1] slices_CompactFunc_api_Re_api_Re_c) ((loopK slices_CompactFunc_api_Re_api_Re_ks (cAt [1, 1, 0, 1, 0, 0] slices_CompactFunc_api_Re_api_Re_c) (iterL (fun t H d again => slices_CompactFunc_api_Re_api_Re_C base (cAt [1, 1, 0, 1, 0, 0] slices_CompactFunc_api_Re_api_Re_c) (loopK slices_CompactFunc_api_Re_api_Re_ks (cAt [1, 1, 0, 1, 0, 0] slices_CompactFunc_api_Re_api_Re_c) again ((blockK 0 ((seqK (fun _ t => slices_CompactFunc_api_Re_api_Re_C base (cAt [1, 1, 1] slices_CompactFunc_api_Re_api_Re_c) (slices_CompactFunc_api_Re_api_Re_e base) (trimA slices_CompactFunc_api_Re_api_Re_ks (cAt [1, 1, 1] slices_CompactFunc_api_Re_api_Re_c) t)) (slices_CompactFunc_api_Re_api_Re_e base)))))) t H d)) ((blockK 0 ((seqK (fun _ t => slices_CompactFunc_api_Re_api_Re_C base (cAt [1, 1, 1] slices_CompactFunc_api_Re_api_Re_c) (slices_CompactFunc_api_Re_api_Re_e base) (trimA slices_CompactFunc_api_Re_api_Re_ks (cAt [1, 1, 1] slices_CompactFunc_api_Re_api_Re_c) t)) (slices_CompactFunc_api_Re_api_Re_e base))))))) (trimA slices_CompactFunc_api_Re_api_Re_ks (cAt [1, 1, 0, 1, 0, 0, 1, 1] slices_CompactFunc_api_Re_api_Re_c) t)) ((loopK slices_CompactFunc_api_Re_api_Re_ks (cAt [1, 1, 0, 1, 0, 0] slices_CompactFunc_api_Re_api_Re_c) (iterL (fun t H d again => slices_CompactFunc_api_Re_api_Re_C base (cAt [1, 1, 0, 1, 0, 0] slices_CompactFunc_api_Re_api_Re_c) (loopK slices_CompactFunc_api_Re_api_Re_ks (cAt [1, 1, 0, 1, 0, 0] slices_CompactFunc_api_Re_api_Re_c) again ((blockK 0 ((seqK (fun _ t => slices_CompactFunc_api_Re_api_Re_C base (cAt [1, 1, 1] slices_CompactFunc_api_Re_api_Re_c) (slices_CompactFunc_api_Re_api_Re_e base) (trimA slices_CompactFunc_api_Re_api_Re_ks (cAt [1, 1, 1] slices_CompactFunc_api_Re_api_Re_c) t)) (slices_CompactFunc_api_Re_api_Re_e base)))))) t H d)) ((blockK 0 ((seqK (fun _ t => slices_CompactFunc_api_Re_api_Re_C base (cAt [1, 1, 1] slices_CompactFunc_api_Re_api_Re_c) (slices_CompactFunc_api_Re_api_Re_e base) (trimA slices_CompactFunc_api_Re_api_Re_ks (cAt [1, 1, 1] slices_CompactFunc_api_Re_api_Re_c) t)) (slices_CompactFunc_api_Re_api_Re_e base))))))))))))))) _ H []).trans (by kernel_rfl)
theorem slices_CompactFunc_api_Re_api_Re_l1_eq (base : Nat) (t0 t1 t5 : V) (H : Heap) : slices_CompactFunc_api_Re_api_Re_l1 base t0 t1 t5 H =
 bnd (oLenSl t0) fun v2 =>
 bnd (oBin .lss 6 t5 v2) fun v3 =>
 cnd v3
 (bnd (oIndexPtr 6 t0 t5) fun v4 =>
 bnd (oLoad true 6 H v4) fun v5 =>
 bnd (oBin .sub 6 t5 (.int .i64 1)) fun v6 =>
 bnd (oIndexPtr 6 t0 v6) fun v7 =>
 bnd (oLoad true 6 H v7) fun v8 =>
 bcall (oDyn E t1 [v5, v8] H) (fun v9 h10 =>
 cnd v9
 (bnd (oSlice 6 t0 (some t5) none none) fun v11 =>
 slices_CompactFunc_api_Re_api_Re_l2 base t0 t1 t5 v11 (.int .i64 1) h10)
 (bnd (oBin .add 6 t5 (.int .i64 1)) fun v33 =>
 slices_CompactFunc_api_Re_api_Re_l1 base t0 t1 v33 h10))
 (fun v9 h10 => pn false base v9 h10))
 (rt false base t0 H) := (loop_eq (cAt [1, 1, 0, 1, 0, 0] slices_CompactFunc_api_Re_api_Re_c) ((blockK 0 ((seqK (fun _ t => slices_CompactFunc_api_Re_api_Re_C base (cAt [1, 1, 1] slices_CompactFunc_api_Re_api_Re_c) (slices_CompactFunc_api_Re_api_Re_e base) (trimA slices_CompactFunc_api_Re_api_Re_ks (cAt [1, 1, 1] slices_CompactFunc_api_Re_api_Re_c) t)) (slices_CompactFunc_api_Re_api_Re_e base))))) _ H []).trans (by kernel_rfl)
def slices_CompactFunc_api_Re_api_Re (base : Nat) (t0 t1 : V) (H : Heap) : Option (Out × Heap) := slices_CompactFunc_api_Re_api_Re_C base slices_CompactFunc_api_Re_api_Re_c (slices_CompactFunc_api_Re_api_Re_e base) [(0, t0), (1, t1)] H []
theorem slices_CompactFunc_api_Re_api_Re_eq (base : Nat) (t0 t1 : V) (H : Heap) : slices_CompactFunc_api_Re_api_Re base t0 t1 H =
 bnd (oLenSl t0) fun v0 =>
 bnd (oBin .lss 6 v0 (.int .i64 2)) fun v1 =>
 cnd v1
 (rt false base t0 H)
 (slices_CompactFunc_api_Re_api_Re_l1 base t0 t1 (.int .i64 1) H) := by kernel_rfl
theorem slices_CompactFunc_api_Re_api_Re_E (t0 t1 : V) (H : Heap) : E n_slices_CompactFunc_api_Re_api_Re [t0, t1] H = slices_CompactFunc_api_Re_api_Re H.length t0 t1 H := (EV_at Tryd.func44 (by kernel_rfl) (by kernel_rfl) (by kernel_rfl)).trans (by kernel_rfl)

def regex_Either_2_c : Code := bodyOf Tryd.f45
def regex_Either_2_ks : Ks := []
def regex_Either_2_e (base : Nat) : KC (Out × Heap) := xEnd Tryd.prog D false base 10 Tryd.f45.results.toList
def regex_Either_2_C (base : Nat) (c : Code) (k : KC (Out × Heap)) (t : Ts) (H : Heap) (d : Ds) : Option (Out × Heap) := xC Tryd.prog base false regex_Either_2_ks E 10 c k t H d
def regex_Either_2 (base : Nat) (t0 t1 : V) (H : Heap) : Option (Out × Heap) := regex_Either_2_C base regex_Either_2_c (regex_Either_2_e base) [(0, t0), (1, t1)] H []
theorem regex_Either_2_eq (base : Nat) (t0 t1 : V) (H : Heap) : regex_Either_2 base t0 t1 H =
 beff (oVar H t0) fun v0 h1 =>
 beff (oVar h1 t1) fun v2 h3 =>
 bnd (oLoad true 6 h3 v0) fun v4 =>
 bcall (E n_regex_Text [v4] h3) (fun v5 h6 =>
 bnd (bnd (oLoad true 6 h6 v2) fun v7 => sch (sam (oLoad true 6 h3 v2) v7) (
 some v7)) fun v7 =>
 bcall (E n_regex_Text [v7] h6) (fun v8 h9 =>
 bnd (oBin .eql 6 v5 v8) fun v10 =>
 rt false base v10 h9)
 (fun v8 h9 => pn false base v8 h9))
 (fun v5 h6 => sch (tlb (oLoad true 6 h3 v2) fun v11 => true) (pn false base v5 h6)) := by kernel_rfl
theorem regex_Either_2_E (t0 t1 : V) (H : Heap) : E n_regex_Either_2 [t0, t1] H = regex_Either_2 H.length t0 t1 H := (EV_at Tryd.func45 (by kernel_rfl) (by kernel_rfl) (by kernel_rfl)).trans (by kernel_rfl)

def ref01_Ranges_c : Code := bodyOf Tryd.f48
def ref01_Ranges_ks : Ks := [(3, [1, 3, 4]), (4, [1, 3, 4])]
def ref01_Ranges_e (base : Nat) : KC (Out × Heap) := xEnd Tryd.prog D false base 42 Tryd.f48.results.toList
def ref01_Ranges_C (base : Nat) (c : Code) (k : KC (Out × Heap)) (t : Ts) (H : Heap) (d : Ds) : Option (Out × Heap) := xC Tryd.prog base false ref01_Ranges_ks E 42 c k t H d
def ref01_Ranges_l1 (base : Nat) (t1 t3 t4 : V) (H : Heap) : Option (Out × Heap) :=
iterL (fun t H d again => ref01_Ranges_C base (cAt [1, 1, 0, 1, 0, 0] ref01_Ranges_c) (loopK ref01_Ranges_ks (cAt [1, 1, 0, 1, 0, 0] ref01_Ranges_c) again ((blockK 0 ((seqK (fun _ t => ref01_Ranges_C base (cAt [1, 1, 1] ref01_Ranges_c) (ref01_Ranges_e base) (trimA ref01_Ranges_ks (cAt [1, 1, 1] ref01_Ranges_c) t)) (ref01_Ranges_e base)))))) t H d) [(1, t1), (3, t3), (4, t4)] H []
def ref01_Ranges_j2 (base : Nat) (t1 t3 t4 : V) (H : Heap) : Option (Out × Heap) :=
ref01_Ranges_C base (cAt [1, 1, 0, 1, 0, 0, 1, 1] ref01_Ranges_c) ((loopK ref01_Ranges_ks (cAt [1, 1, 0, 1, 0, 0] ref01_Ranges_c) (iterL (fun t H d again => ref01_Ranges_C base (cAt [1, 1, 0, 1, 0, 0] ref01_Ranges_c) (loopK ref01_Ranges_ks (cAt [1, 1, 0, 1, 0, 0] ref01_Ranges_c) again ((blockK 0 ((seqK (fun _ t => ref01_Ranges_C base (cAt [1, 1, 1] ref01_Ranges_c) (ref01_Ranges_e base) (trimA ref01_Ranges_ks (cAt [1, 1, 1] ref01_Ranges_c) t)) (ref01_Ranges_e base)))))) t H d)) ((blockK 0 ((seqK (fun _ t => ref01_Ranges_C base (cAt [1, 1, 1] ref01_Ranges_c) (ref01_Ranges_e base) (trimA ref01_Ranges_ks (cAt [1, 1, 1] ref01_Ranges_c) t)) (ref01_Ranges_e base))))))) [(1, t1), (3, t3), (4, t4)] H []
theorem ref01_Ranges_j2_eq (base : Nat) (t1 t3 t4 : V) (H : Heap) : ref01_Ranges_j2 base t1 t3 t4 H =
 bnd (oBin .add 6 t4 (.int .i64 1)) fun v7 =>
 ref01_Ranges_l1 base t1 t3 v7 H := by kernel_rfl
theorem ref01_Ranges_l1_eq (base : Nat) (t1 t3 t4 : V) (H : Heap) : ref01_Ranges_l1 base t1 t3 t4 H =
 bnd (oBin .lss 6 t4 (.int .i64 256)) fun v2 =>
 cnd v2
 (bnd (oLoad true 4 H t1) fun v3 =>
 bcall (E n_ref01_Has [v3, t4] H) (fun v4 h5 =>
 bnd (oUn .not v4) fun v6 =>
 cnd v6
 (ref01_Ranges_j2 base t1 t3 t4 h5)
 (bnd (oLenSl t3) fun v8 =>
 bnd (oBin .gtr 6 v8 (.int .i64 0)) fun v9 =>
 bnd (gua v9 true (oMove t3) (some (.tup []))) fun v10 =>
 bnd (gua v9 true (oMove t3) (some (.tup []))) fun v11 =>
 bnd (gua v9 true (oLenSl v11) (some (.tup []))) fun v12 =>
 bnd (gua v9 true (oBin .sub 6 v12 (.int .i64 1)) (some (.tup []))) fun v13 =>
 bnd (gua v9 true (oIndexPtr 2 v10 v13) (some (.tup []))) fun v14 =>
 bnd (gua v9 true (oFieldPtr v14 1) (some (.tup []))) fun v15 =>
 bnd (gua v9 true (oLoad false 1 h5 v15) (some (.tup []))) fun v16 =>
 bnd (gua v9 true (oMove t4) (some (.tup []))) fun v17 =>
 bnd (gua v9 true (oBin .sub 6 v17 (.int .i64 1)) (some (.tup []))) fun v18 =>
 bnd (gua v9 true (oBin .eql 6 v16 v18) (some (.tup []))) fun v19 =>
 bnd (oPick v9 v19 (.bool false)) fun v20 =>
 cnd v20
 (bnd (oLenSl t3) fun v21 =>
 bnd (oBin .sub 6 v21 (.int .i64 1)) fun v22 =>
 bnd (oIndexPtr 2 t3 v22) fun v23 =>
 bnd (oFieldPtr v23 1) fun v24 =>
 beff (oStore base 1 h5 v24 t4) fun v25 h26 =>
 ref01_Ranges_j2 base t1 t3 t4 h26)
 (bnd (oBuild [(.int .i64 0), (.int .i64 0)] [(0, 1), (1, 1)] [(0, t4), (1, t4)]) fun v27 =>
 bnd (oLit 2 1 (.agg [(.int .i64 0), (.int .i64 0)]) [(0, v27)]) fun v28 =>
 beff (oAppend base 2 16 true t3 v28 h5) fun v29 h30 =>
 ref01_Ranges_j2 base t1 v29 t4 h30)))
 (fun v4 h5 => pn false base v4 h5))
 (rt false base t3 H) := (loop_eq (cAt [1, 1, 0, 1, 0, 0] ref01_Ranges_c) ((blockK 0 ((seqK (fun _ t => ref01_Ranges_C base (cAt [1, 1, 1] ref01_Ranges_c) (ref01_Ranges_e base) (trimA ref01_Ranges_ks (cAt [1, 1, 1] ref01_Ranges_c) t)) (ref01_Ranges_e base))))) _ H []).trans (by kernel_rfl)
def ref01_Ranges (base : Nat) (t0 : V) (H : Heap) : Option (Out × Heap) := ref01_Ranges_C base ref01_Ranges_c (ref01_Ranges_e base) [(0, t0)] H []
theorem ref01_Ranges_eq (base : Nat) (t0 : V) (H : Heap) : ref01_Ranges base t0 H =
 beff (oVar H t0) fun v0 h1 =>
 ref01_Ranges_l1 base v0 .nils (.int .i64 0) h1 := by kernel_rfl
theorem ref01_Ranges_E (t0 : V) (H : Heap) : E n_ref01_Ranges [t0] H = ref01_Ranges H.length t0 H := (EV_at Tryd.func48 (by kernel_rfl) (by kernel_rfl) (by kernel_rfl)).trans (by kernel_rfl)

def ref07_digits_c : Code := bodyOf Tryd.f49
def ref07_digits_ks : Ks := []
def ref07_digits_e (base : Nat) : KC (Out × Heap) := xEnd Tryd.prog D false base 18 Tryd.f49.results.toList
def ref07_digits_C (base : Nat) (c : Code) (k : KC (Out × Heap)) (t : Ts) (H : Heap) (d : Ds) : Option (Out × Heap) := xC Tryd.prog base false ref07_digits_ks E 18 c k t H d
def ref07_digits (base : Nat) (t0 : V) (H : Heap) : Option (Out × Heap) := ref07_digits_C base ref07_digits_c (ref07_digits_e base) [(0, t0)] H []
theorem ref07_digits_eq (base : Nat) (t0 : V) (H : Heap) : ref07_digits base t0 H =
 bnd (oBin .rem 6 t0 (.int .i64 10)) fun v0 =>
 bnd (oBin .add 6 (.int .i64 48) v0) fun v1 =>
 bnd (oIntTo .u8 v1) fun v2 =>
 bnd (oLit 1 1 (.int .u8 0) [(0, v2)]) fun v3 =>
 bnd (oText H v3) fun v4 =>
 bnd (oBin .lss 6 t0 (.int .i64 10)) fun v5 =>
 cnd v5
 (rt false base v4 H)
 (bnd (oBin .quo 6 t0 (.int .i64 10)) fun v6 =>
 bcall (E n_ref07_digits [v6] H) (fun v7 h8 =>
 bnd (oBin .add 6 v7 v4) fun v9 =>
 rt false base v9 h8)
 (fun v7 h8 => pn false base v7 h8)) := by kernel_rfl
theorem ref07_digits_E (t0 : V) (H : Heap) : E n_ref07_digits [t0] H = ref07_digits H.length t0 H := (EV_at Tryd.func49 (by kernel_rfl) (by kernel_rfl) (by kernel_rfl)).trans (by kernel_rfl)

def ref07_flat_c : Code := bodyOf Tryd.f50
def ref07_flat_ks : Ks := [(3, [0, 1, 5, 6]), (4, [0, 1, 5, 6])]
def ref07_flat_e (base : Nat) : KC (Out × Heap) := xEnd Tryd.prog D false base 35 Tryd.f50.results.toList
def ref07_flat_C (base : Nat) (c : Code) (k : KC (Out × Heap)) (t : Ts) (H : Heap) (d : Ds) : Option (Out × Heap) := xC Tryd.prog base false ref07_flat_ks E 35 c k t H d
def ref07_flat_l1 (base : Nat) (t0 t1 t5 t6 : V) (H : Heap) : Option (Out × Heap) :=
iterL (fun t H d again => ref07_flat_C base (cAt [1, 1, 0, 1, 0, 0] ref07_flat_c) (loopK ref07_flat_ks (cAt [1, 1, 0, 1, 0, 0] ref07_flat_c) again ((blockK 0 ((seqK (fun _ t => ref07_flat_C base (cAt [1, 1, 1] ref07_flat_c) (ref07_flat_e base) (trimA ref07_flat_ks (cAt [1, 1, 1] ref07_flat_c) t)) (ref07_flat_e base)))))) t H d) [(0, t0), (1, t1), (5, t5), (6, t6)] H []
def ref07_flat_j2 (base : Nat) (t0 t1 t5 t6 : V) (H : Heap) : Option (Out × Heap) :=
ref07_flat_C base (cAt [1, 1, 0, 1, 0, 0, 1, 1] ref07_flat_c) ((loopK ref07_flat_ks (cAt [1, 1, 0, 1, 0, 0] ref07_flat_c) (iterL (fun t H d again => ref07_flat_C base (cAt [1, 1, 0, 1, 0, 0] ref07_flat_c) (loopK ref07_flat_ks (cAt [1, 1, 0, 1, 0, 0] ref07_flat_c) again ((blockK 0 ((seqK (fun _ t => ref07_flat_C base (cAt [1, 1, 1] ref07_flat_c) (ref07_flat_e base) (trimA ref07_flat_ks (cAt [1, 1, 1] ref07_flat_c) t)) (ref07_flat_e base)))))) t H d)) ((blockK 0 ((seqK (fun _ t => ref07_flat_C base (cAt [1, 1, 1] ref07_flat_c) (ref07_flat_e base) (trimA ref07_flat_ks (cAt [1, 1, 1] ref07_flat_c) t)) (ref07_flat_e base))))))) [(0, t0), (1, t1), (5, t5), (6, t6)] H []
theorem ref07_flat_j2_eq (base : Nat) (t0 t1 t5 t6 : V) (H : Heap) : ref07_flat_j2 base t0 t1 t5 t6 H =
 bnd (oBin .add 6 t6 (.int .i64 1)) fun v11 =>
 ref07_flat_l1 base t0 t1 t5 v11 H := by kernel_rfl
theorem ref07_flat_l1_eq (base : Nat) (t0 t1 t5 t6 : V) (H : Heap) : ref07_flat_l1 base t0 t1 t5 t6 H =
 bnd (oLenSl t0) fun v0 =>
 bnd (oBin .lss 6 t6 v0) fun v1 =>
 cnd v1
 (bnd (oIndexPtr 6 t0 t6) fun v2 =>
 bnd (oFieldPtr v2 0) fun v3 =>
 bnd (oLoad false 1 H v3) fun v4 =>
 bnd (oBin .eql 6 v4 t1) fun v5 =>
 cnd v5
 (bnd (oIndexPtr 6 t0 t6) fun v6 =>
 bnd (oFieldPtr v6 5) fun v7 =>
 bnd (oLoad false 1 H v7) fun v8 =>
 beff (oAppend base 6 64 true t5 v8 H) fun v9 h10 =>
 ref07_flat_j2 base t0 t1 v9 t6 h10)
 (bnd (oIndexPtr 6 t0 t6) fun v12 =>
 bnd (oLoad true 6 H v12) fun v13 =>
 bnd (oLit 6 1 (.agg [(.int .i64 0), (.int .u64 0), (.int .u64 0), (.int .u64 0), (.int .u64 0), (.vs [])]) [(0, v13)]) fun v14 =>
 beff (oAppend base 6 64 true t5 v14 H) fun v15 h16 =>
 ref07_flat_j2 base t0 t1 v15 t6 h16))
 (rt false base t5 H) := (loop_eq (cAt [1, 1, 0, 1, 0, 0] ref07_flat_c) ((blockK 0 ((seqK (fun _ t => ref07_flat_C base (cAt [1, 1, 1] ref07_flat_c) (ref07_flat_e base) (trimA ref07_flat_ks (cAt [1, 1, 1] ref07_flat_c) t)) (ref07_flat_e base))))) _ H []).trans (by kernel_rfl)
def ref07_flat (base : Nat) (t0 t1 : V) (H : Heap) : Option (Out × Heap) := ref07_flat_C base ref07_flat_c (ref07_flat_e base) [(0, t0), (1, t1)] H []
theorem ref07_flat_eq (base : Nat) (t0 t1 : V) (H : Heap) : ref07_flat base t0 t1 H =
 ref07_flat_l1 base t0 t1 .nils (.int .i64 0) H := by kernel_rfl
theorem ref07_flat_E (t0 t1 : V) (H : Heap) : E n_ref07_flat [t0, t1] H = ref07_flat H.length t0 t1 H := (EV_at Tryd.func50 (by kernel_rfl) (by kernel_rfl) (by kernel_rfl)).trans (by kernel_rfl)

def ref07_some_c : Code := bodyOf Tryd.f51
def ref07_some_ks : Ks := []
def ref07_some_e (base : Nat) : KC (Out × Heap) := xEnd Tryd.prog D false base 14 Tryd.f51.results.toList
def ref07_some_C (base : Nat) (c : Code) (k : KC (Out × Heap)) (t : Ts) (H : Heap) (d : Ds) : Option (Out × Heap) := xC Tryd.prog base false ref07_some_ks E 14 c k t H d
def ref07_some (base : Nat) (t0 t1 : V) (H : Heap) : Option (Out × Heap) := ref07_some_C base ref07_some_c (ref07_some_e base) [(0, t0), (1, t1)] H []
theorem ref07_some_eq (base : Nat) (t0 t1 : V) (H : Heap) : ref07_some base t0 t1 H =
 beff (oVar H (.agg [(.int .i64 0), (.int .u64 0), (.int .u64 0), (.int .u64 0), (.int .u64 0), .nils])) fun v0 h1 =>
 bnd (oLenSl t0) fun v2 =>
 bnd (oBin .eql 6 v2 (.int .i64 1)) fun v3 =>
 cnd v3
 (bnd (oIndexPtr 6 t0 (.int .i64 0)) fun v4 =>
 bnd (oLoad true 6 h1 v4) fun v5 =>
 beff (oStore base 6 h1 v0 v5) fun v6 h7 =>
 bnd (oLoad true 6 h7 v0) fun v8 =>
 rt false base v8 h7)
 (bnd (oBuild [(.int .i64 0), (.int .u64 0), (.int .u64 0), (.int .u64 0), (.int .u64 0), .nils] [(0, 1), (1, 4), (5, 1)] [(0, t1), (2, t0)]) fun v9 =>
 beff (oStore base 6 h1 v0 v9) fun v10 h11 =>
 bnd (oLoad true 6 h11 v0) fun v12 =>
 rt false base v12 h11) := by kernel_rfl
theorem ref07_some_E (t0 t1 : V) (H : Heap) : E n_ref07_some [t0, t1] H = ref07_some H.length t0 t1 H := (EV_at Tryd.func51 (by kernel_rfl) (by kernel_rfl) (by kernel_rfl)).trans (by kernel_rfl)

def ref01_Join_c : Code := bodyOf Tryd.f52
def ref01_Join_ks : Ks := []
def ref01_Join_e (base : Nat) : KC (Out × Heap) := xEnd Tryd.prog D false base 8 Tryd.f52.results.toList
def ref01_Join_C (base : Nat) (c : Code) (k : KC (Out × Heap)) (t : Ts) (H : Heap) (d : Ds) : Option (Out × Heap) := xC Tryd.prog base false ref01_Join_ks E 8 c k t H d
def ref01_Join (base : Nat) (t0 t1 : V) (H : Heap) : Option (Out × Heap) := ref01_Join_C base ref01_Join_c (ref01_Join_e base) [(0, t0), (1, t1)] H []
theorem ref01_Join_eq (base : Nat) (t0 t1 : V) (H : Heap) : ref01_Join base t0 t1 H =
 beff (oVar H t0) fun v0 h1 =>
 beff (oVar h1 t1) fun v2 h3 =>
 beff (oVar h3 (.agg [(.int .u64 0), (.int .u64 0), (.int .u64 0), (.int .u64 0)])) fun v4 h5 =>
 bnd (oLoad true 4 h5 v0) fun v6 =>
 bnd (oLoad true 4 h5 v2) fun v7 =>
 bcall (E n_ref01_pick [v6, v7, (.bool false), (.bool true), (.bool true), (.bool true)] h5) (fun v8 h9 =>
 beff (oStore base 4 h9 v4 v8) fun v10 h11 =>
 bnd (oLoad true 4 h11 v4) fun v12 =>
 rt false base v12 h11)
 (fun v8 h9 => pn false base v8 h9) := by kernel_rfl
theorem ref01_Join_E (t0 t1 : V) (H : Heap) : E n_ref01_Join [t0, t1] H = ref01_Join H.length t0 t1 H := (EV_at Tryd.func52 (by kernel_rfl) (by kernel_rfl) (by kernel_rfl)).trans (by kernel_rfl)

def ref07_put_c : Code := bodyOf Tryd.f53
def ref07_put_ks : Ks := [(5, [0, 3, 5, 6, 7, 8]), (10, [0, 3, 5, 6, 7, 8, 9]), (13, [0, 3, 5, 6, 7, 8]), (6, [0, 3, 5, 6, 7, 8]), (16, [5])]
def ref07_put_e (base : Nat) : KC (Out × Heap) := xEnd Tryd.prog D false base 51 Tryd.f53.results.toList
def ref07_put_C (base : Nat) (c : Code) (k : KC (Out × Heap)) (t : Ts) (H : Heap) (d : Ds) : Option (Out × Heap) := xC Tryd.prog base false ref07_put_ks E 51 c k t H d
def ref07_put_l1 (base : Nat) (t0 t3 t5 t6 t7 t8 : V) (H : Heap) : Option (Out × Heap) :=
iterL (fun t H d again => ref07_put_C base (cAt [1, 1, 1, 1, 0, 1, 0, 0] ref07_put_c) (loopK ref07_put_ks (cAt [1, 1, 1, 1, 0, 1, 0, 0] ref07_put_c) again ((blockK 0 ((seqK (fun _ t => ref07_put_C base (cAt [1, 1, 1, 1, 1] ref07_put_c) (ref07_put_e base) (trimA ref07_put_ks (cAt [1, 1, 1, 1, 1] ref07_put_c) t)) (ref07_put_e base)))))) t H d) [(0, t0), (3, t3), (5, t5), (6, t6), (7, t7), (8, t8)] H []
def ref07_put_j4 (base : Nat) (t0 t3 t5 t6 t7 t8 : V) (H : Heap) : Option (Out × Heap) :=
ref07_put_C base (cAt [1, 1, 1, 1, 0, 1, 0, 0, 1, 1] ref07_put_c) ((loopK ref07_put_ks (cAt [1, 1, 1, 1, 0, 1, 0, 0] ref07_put_c) (iterL (fun t H d again => ref07_put_C base (cAt [1, 1, 1, 1, 0, 1, 0, 0] ref07_put_c) (loopK ref07_put_ks (cAt [1, 1, 1, 1, 0, 1, 0, 0] ref07_put_c) again ((blockK 0 ((seqK (fun _ t => ref07_put_C base (cAt [1, 1, 1, 1, 1] ref07_put_c) (ref07_put_e base) (trimA ref07_put_ks (cAt [1, 1, 1, 1, 1] ref07_put_c) t)) (ref07_put_e base)))))) t H d)) ((blockK 0 ((seqK (fun _ t => ref07_put_C base (cAt [1, 1, 1, 1, 1] ref07_put_c) (ref07_put_e base) (trimA ref07_put_ks (cAt [1, 1, 1, 1, 1] ref07_put_c) t)) (ref07_put_e base))))))) [(0, t0), (3, t3), (5, t5), (6, t6), (7, t7), (8, t8)] H []
theorem ref07_put_j4_eq (base : Nat) (t0 t3 t5 t6 t7 t8 : V) (H : Heap) : ref07_put_j4 base t0 t3 t5 t6 t7 t8 H =
 bnd (oBin .add 6 t8 (.int .i64 1)) fun v25 =>
 ref07_put_l1 base t0 t3 t5 t6 t7 v25 H := by kernel_rfl
def ref07_put_j3 (base : Nat) (t0 t3 t5 t6 t7 t8 : V) (H : Heap) : Option (Out × Heap) :=
ref07_put_C base (cAt [1, 1, 1, 1, 0, 1, 0, 0, 1, 0, 0, 1, 1, 1] ref07_put_c) ((blockK 1 ((seqK (fun _ t => ref07_put_C base (cAt [1, 1, 1, 1, 0, 1, 0, 0, 1, 1] ref07_put_c) ((loopK ref07_put_ks (cAt [1, 1, 1, 1, 0, 1, 0, 0] ref07_put_c) (iterL (fun t H d again => ref07_put_C base (cAt [1, 1, 1, 1, 0, 1, 0, 0] ref07_put_c) (loopK ref07_put_ks (cAt [1, 1, 1, 1, 0, 1, 0, 0] ref07_put_c) again ((blockK 0 ((seqK (fun _ t => ref07_put_C base (cAt [1, 1, 1, 1, 1] ref07_put_c) (ref07_put_e base) (trimA ref07_put_ks (cAt [1, 1, 1, 1, 1] ref07_put_c) t)) (ref07_put_e base)))))) t H d)) ((blockK 0 ((seqK (fun _ t => ref07_put_C base (cAt [1, 1, 1, 1, 1] ref07_put_c) (ref07_put_e base) (trimA ref07_put_ks (cAt [1, 1, 1, 1, 1] ref07_put_c) t)) (ref07_put_e base))))))) (trimA ref07_put_ks (cAt [1, 1, 1, 1, 0, 1, 0, 0, 1, 1] ref07_put_c) t)) ((loopK ref07_put_ks (cAt [1, 1, 1, 1, 0, 1, 0, 0] ref07_put_c) (iterL (fun t H d again => ref07_put_C base (cAt [1, 1, 1, 1, 0, 1, 0, 0] ref07_put_c) (loopK ref07_put_ks (cAt [1, 1, 1, 1, 0, 1, 0, 0] ref07_put_c) again ((blockK 0 ((seqK (fun _ t => ref07_put_C base (cAt [1, 1, 1, 1, 1] ref07_put_c) (ref07_put_e base) (trimA ref07_put_ks (cAt [1, 1, 1, 1, 1] ref07_put_c) t)) (ref07_put_e base)))))) t H d)) ((blockK 0 ((seqK (fun _ t => ref07_put_C base (cAt [1, 1, 1, 1, 1] ref07_put_c) (ref07_put_e base) (trimA ref07_put_ks (cAt [1, 1, 1, 1, 1] ref07_put_c) t)) (ref07_put_e base))))))))))) [(0, t0), (3, t3), (5, t5), (6, t6), (7, t7), (8, t8)] H []
theorem ref07_put_j3_eq (base : Nat) (t0 t3 t5 t6 t7 t8 : V) (H : Heap) : ref07_put_j3 base t0 t3 t5 t6 t7 t8 H =
 bnd (oIndexPtr 6 t0 t8) fun v20 =>
 bnd (oLoad true 6 H v20) fun v21 =>
 bnd (oLit 6 1 (.agg [(.int .i64 0), (.int .u64 0), (.int .u64 0), (.int .u64 0), (.int .u64 0), (.vs [])]) [(0, v21)]) fun v22 =>
 beff (oAppend base 6 64 true t5 v22 H) fun v23 h24 =>
 ref07_put_j4 base t0 t3 v23 t6 t7 t8 h24 := by kernel_rfl
def ref07_put_j2 (base : Nat) (t0 t3 t5 t6 t7 t8 t9 : V) (H : Heap) : Option (Out × Heap) :=
ref07_put_C base (cAt [1, 1, 1, 1, 0, 1, 0, 0, 1, 0, 0, 1, 1] ref07_put_c) ((blockK 1 ((seqK (fun _ t => ref07_put_C base (cAt [1, 1, 1, 1, 0, 1, 0, 0, 1, 1] ref07_put_c) ((loopK ref07_put_ks (cAt [1, 1, 1, 1, 0, 1, 0, 0] ref07_put_c) (iterL (fun t H d again => ref07_put_C base (cAt [1, 1, 1, 1, 0, 1, 0, 0] ref07_put_c) (loopK ref07_put_ks (cAt [1, 1, 1, 1, 0, 1, 0, 0] ref07_put_c) again ((blockK 0 ((seqK (fun _ t => ref07_put_C base (cAt [1, 1, 1, 1, 1] ref07_put_c) (ref07_put_e base) (trimA ref07_put_ks (cAt [1, 1, 1, 1, 1] ref07_put_c) t)) (ref07_put_e base)))))) t H d)) ((blockK 0 ((seqK (fun _ t => ref07_put_C base (cAt [1, 1, 1, 1, 1] ref07_put_c) (ref07_put_e base) (trimA ref07_put_ks (cAt [1, 1, 1, 1, 1] ref07_put_c) t)) (ref07_put_e base))))))) (trimA ref07_put_ks (cAt [1, 1, 1, 1, 0, 1, 0, 0, 1, 1] ref07_put_c) t)) ((loopK ref07_put_ks (cAt [1, 1, 1, 1, 0, 1, 0, 0] ref07_put_c) (iterL (fun t H d again => ref07_put_C base (cAt [1, 1, 1, 1, 0, 1, 0, 0] ref07_put_c) (loopK ref07_put_ks (cAt [1, 1, 1, 1, 0, 1, 0, 0] ref07_put_c) again ((blockK 0 ((seqK (fun _ t => ref07_put_C base (cAt [1, 1, 1, 1, 1] ref07_put_c) (ref07_put_e base) (trimA ref07_put_ks (cAt [1, 1, 1, 1, 1] ref07_put_c) t)) (ref07_put_e base)))))) t H d)) ((blockK 0 ((seqK (fun _ t => ref07_put_C base (cAt [1, 1, 1, 1, 1] ref07_put_c) (ref07_put_e base) (trimA ref07_put_ks (cAt [1, 1, 1, 1, 1] ref07_put_c) t)) (ref07_put_e base))))))))))) [(0, t0), (3, t3), (5, t5), (6, t6), (7, t7), (8, t8), (9, t9)] H []
theorem ref07_put_j2_eq (base : Nat) (t0 t3 t5 t6 t7 t8 t9 : V) (H : Heap) : ref07_put_j2 base t0 t3 t5 t6 t7 t8 t9 H =
 bnd (oBin .gtr 6 t9 t6) fun v12 =>
 bnd (gua v12 true (oMove t7) (some (.tup []))) fun v13 =>
 bnd (gua v12 true (oUn .not v13) (some (.tup []))) fun v14 =>
 bnd (oPick v12 v14 (.bool false)) fun v15 =>
 cnd v15
 (bnd (oLoad true 6 H t3) fun v16 =>
 bnd (oLit 6 1 (.agg [(.int .i64 0), (.int .u64 0), (.int .u64 0), (.int .u64 0), (.int .u64 0), (.vs [])]) [(0, v16)]) fun v17 =>
 beff (oAppend base 6 64 true t5 v17 H) fun v18 h19 =>
 ref07_put_j3 base t0 t3 v18 t6 (.bool true) t8 h19)
 (ref07_put_j3 base t0 t3 t5 t6 t7 t8 H) := by kernel_rfl
def ref07_put_j5 (base : Nat) (t5 : V) (H : Heap) : Option (Out × Heap) :=
ref07_put_C base (cAt [1, 1, 1, 1, 1, 1] ref07_put_c) (ref07_put_e base) [(5, t5)] H []
theorem ref07_put_j5_eq (base : Nat) (t5 : V) (H : Heap) : ref07_put_j5 base t5 H =
 rt false base t5 H := by kernel_rfl
theorem ref07_put_l1_eq (base : Nat) (t0 t3 t5 t6 t7 t8 : V) (H : Heap) : ref07_put_l1 base t0 t3 t5 t6 t7 t8 H =
 bnd (oLenSl t0) fun v5 =>
 bnd (oBin .lss 6 t8 v5) fun v6 =>
 cnd v6
 (bnd (oIndexPtr 6 t0 t8) fun v7 =>
 bnd (oLoad true 6 H v7) fun v8 =>
 bcall (E n_ref07_Text [v8] H) (fun v9 h10 =>
 bnd (oBin .eql 6 v9 t6) fun v11 =>
 cnd v11
 (ref07_put_j2 base t0 t3 t5 t6 (.bool true) t8 v9 h10)
 (ref07_put_j2 base t0 t3 t5 t6 t7 t8 v9 h10))
 (fun v9 h10 => pn false base v9 h10))
 (bnd (oUn .not t7) fun v26 =>
 cnd v26
 (bnd (oLoad true 6 H t3) fun v27 =>
 bnd (oLit 6 1 (.agg [(.int .i64 0), (.int .u64 0), (.int .u64 0), (.int .u64 0), (.int .u64 0), (.vs [])]) [(0, v27)]) fun v28 =>
 beff (oAppend base 6 64 true t5 v28 H) fun v29 h30 =>
 ref07_put_j5 base v29 h30)
 (ref07_put_j5 base t5 H)) := (loop_eq (cAt [1, 1, 1, 1, 0, 1, 0, 0] ref07_put_c) ((blockK 0 ((seqK (fun _ t => ref07_put_C base (cAt [1, 1, 1, 1, 1] ref07_put_c) (ref07_put_e base) (trimA ref07_put_ks (cAt [1, 1, 1, 1, 1] ref07_put_c) t)) (ref07_put_e base))))) _ H []).trans (by kernel_rfl)
def ref07_put (base : Nat) (t0 t1 : V) (H : Heap) : Option (Out × Heap) := ref07_put_C base ref07_put_c (ref07_put_e base) [(0, t0), (1, t1)] H []
theorem ref07_put_eq (base : Nat) (t0 t1 : V) (H : Heap) : ref07_put base t0 t1 H =
 beff (oVar H t1) fun v0 h1 =>
 bnd (oLoad true 6 h1 v0) fun v2 =>
 bcall (E n_ref07_Text [v2] h1) (fun v3 h4 =>
 ref07_put_l1 base t0 v0 .nils v3 (.bool false) (.int .i64 0) h4)
 (fun v3 h4 => pn false base v3 h4) := by kernel_rfl
theorem ref07_put_E (t0 t1 : V) (H : Heap) : E n_ref07_put [t0, t1] H = ref07_put H.length t0 t1 H := (EV_at Tryd.func53 (by kernel_rfl) (by kernel_rfl) (by kernel_rfl)).trans (by kernel_rfl)

def ref01_Has_c : Code := bodyOf Tryd.f54
def ref01_Has_ks : Ks := []
def ref01_Has_e (base : Nat) : KC (Out × Heap) := xEnd Tryd.prog D false base 22 Tryd.f54.results.toList
def ref01_Has_C (base : Nat) (c : Code) (k : KC (Out × Heap)) (t : Ts) (H : Heap) (d : Ds) : Option (Out × Heap) := xC Tryd.prog base false ref01_Has_ks E 22 c k t H d
def ref01_Has (base : Nat) (t0 t1 : V) (H : Heap) : Option (Out × Heap) := ref01_Has_C base ref01_Has_c (ref01_Has_e base) [(0, t0), (1, t1)] H []
theorem ref01_Has_eq (base : Nat) (t0 t1 : V) (H : Heap) : ref01_Has base t0 t1 H =
 beff (oVar H t0) fun v0 h1 =>
 bnd (oBin .geq 6 t1 (.int .i64 0)) fun v2 =>
 bnd (gua v2 true (oMove t1) (some (.tup []))) fun v3 =>
 bnd (gua v2 true (oBin .lss 6 v3 (.int .i64 256)) (some (.tup []))) fun v4 =>
 bnd (oPick v2 v4 (.bool false)) fun v5 =>
 bnd (gua v5 true (oMove t1) (some (.tup []))) fun v6 =>
 bnd (gua v5 true (oBin .quo 6 v6 (.int .i64 64)) (some (.tup []))) fun v7 =>
 bnd (gua v5 true (oIndexPtrA 4 1 v0 v7) (some (.tup []))) fun v8 =>
 bnd (gua v5 true (oLoad false 1 h1 v8) (some (.tup []))) fun v9 =>
 bnd (gua v5 true (oMove t1) (some (.tup []))) fun v10 =>
 bnd (gua v5 true (oBin .rem 6 v10 (.int .i64 64)) (some (.tup []))) fun v11 =>
 bnd (gua v5 true (oBin .shr 6 v9 v11) (some (.tup []))) fun v12 =>
 bnd (gua v5 true (oBin .and 6 v12 (.int .u64 1)) (some (.tup []))) fun v13 =>
 bnd (gua v5 true (oBin .eql 6 v13 (.int .u64 1)) (some (.tup []))) fun v14 =>
 bnd (oPick v5 v14 (.bool false)) fun v15 =>
 rt false base v15 h1 := by kernel_rfl
theorem ref01_Has_E (t0 t1 : V) (H : Heap) : E n_ref01_Has [t0, t1] H = ref01_Has H.length t0 t1 H := (EV_at Tryd.func54 (by kernel_rfl) (by kernel_rfl) (by kernel_rfl)).trans (by kernel_rfl)

def law07_picker_re_c : Code := bodyOf Tryd.f55
def law07_picker_re_ks : Ks := [(4, [0, 1, 4, 5])]
def law07_picker_re_e (base : Nat) : KC (Out × Heap) := xEnd Tryd.prog D false base 60 Tryd.f55.results.toList
def law07_picker_re_C (base : Nat) (c : Code) (k : KC (Out × Heap)) (t : Ts) (H : Heap) (d : Ds) : Option (Out × Heap) := xC Tryd.prog base false law07_picker_re_ks E 60 c k t H d
def law07_picker_re_j1 (base : Nat) (t0 t1 t4 t5 : V) (H : Heap) : Option (Out × Heap) :=
law07_picker_re_C base (cAt [1, 1, 1] law07_picker_re_c) (law07_picker_re_e base) [(0, t0), (1, t1), (4, t4), (5, t5)] H []
theorem law07_picker_re_j1_eq (base : Nat) (t0 t1 t4 t5 : V) (H : Heap) : law07_picker_re_j1 base t0 t1 t4 t5 H =
 bnd (oBin .lss 6 t5 (.int .i64 4)) fun v6 =>
 cnd v6
 (bcall (E n_law07_picker_pick [t0, (.int .i64 3)] H) (fun v7 h8 =>
 bnd (oBin .add 6 (.int .i64 97) v7) fun v9 =>
 bcall (E n_law07_picker_pick [t0, (.int .i64 4)] h8) (fun v10 h11 =>
 bnd (oBin .quo 6 v10 (.int .i64 3)) fun v12 =>
 bnd (oBin .add 6 v9 v12) fun v13 =>
 bcall (E n_law07_letter [v9, v13] h11) (fun v14 h15 =>
 beff (oStore base 6 h15 t4 v14) fun v16 h17 =>
 bnd (oLoad true 6 h17 t4) fun v18 =>
 rt false base v18 h17)
 (fun v14 h15 => pn false base v14 h15))
 (fun v10 h11 => pn false base v10 h11))
 (fun v7 h8 => pn false base v7 h8))
 (bnd (oBin .eql 6 t5 (.int .i64 4)) fun v19 =>
 cnd v19
 (bcall (E n_law07_picker_pick [t0, (.int .i64 4)] H) (fun v20 h21 =>
 bnd (oBin .quo 6 v20 (.int .i64 3)) fun v22 =>
 bnd (oBuild [(.int .i64 0), (.int .u64 0), (.int .u64 0), (.int .u64 0), (.int .u64 0), .nils] [(0, 1), (1, 4), (5, 1)] [(0, v22)]) fun v23 =>
 beff (oStore base 6 h21 t4 v23) fun v24 h25 =>
 bnd (oLoad true 6 h25 t4) fun v26 =>
 rt false base v26 h25)
 (fun v20 h21 => pn false base v20 h21))
 (bnd (oBin .lss 6 t5 (.int .i64 7)) fun v27 =>
 cnd v27
 (bnd (oBin .sub 6 t1 (.int .i64 1)) fun v28 =>
 bcall (E n_law07_picker_re [t0, v28] H) (fun v29 h30 =>
 bcall (E n_ref07_Star [v29] h30) (fun v31 h32 =>
 beff (oStore base 6 h32 t4 v31) fun v33 h34 =>
 bnd (oLoad true 6 h34 t4) fun v35 =>
 rt false base v35 h34)
 (fun v31 h32 => pn false base v31 h32))
 (fun v29 h30 => pn false base v29 h30))
 (bnd (oBin .lss 6 t5 (.int .i64 9)) fun v36 =>
 cnd v36
 (bcall (E n_law07_picker_pick [t0, (.int .i64 3)] H) (fun v37 h38 =>
 bnd (oBin .add 6 (.int .i64 1) v37) fun v39 =>
 bnd (oBin .sub 6 t1 (.int .i64 1)) fun v40 =>
 bcall (E n_law07_picker_some [t0, v39, v40] h38) (fun v41 h42 =>
 bcall (E n_ref07_Cat [v41] h42) (fun v43 h44 =>
 beff (oStore base 6 h44 t4 v43) fun v45 h46 =>
 bnd (oLoad true 6 h46 t4) fun v47 =>
 rt false base v47 h46)
 (fun v43 h44 => pn false base v43 h44))
 (fun v41 h42 => pn false base v41 h42))
 (fun v37 h38 => pn false base v37 h38))
 (bcall (E n_law07_picker_pick [t0, (.int .i64 3)] H) (fun v48 h49 =>
 bnd (oBin .add 6 (.int .i64 1) v48) fun v50 =>
 bnd (oBin .sub 6 t1 (.int .i64 1)) fun v51 =>
 bcall (E n_law07_picker_some [t0, v50, v51] h49) (fun v52 h53 =>
 bcall (E n_ref07_Either [v52] h53) (fun v54 h55 =>
 beff (oStore base 6 h55 t4 v54) fun v56 h57 =>
 bnd (oLoad true 6 h57 t4) fun v58 =>
 rt false base v58 h57)
 (fun v54 h55 => pn false base v54 h55))
 (fun v52 h53 => pn false base v52 h53))
 (fun v48 h49 => pn false base v48 h49))))) := by kernel_rfl
def law07_picker_re (base : Nat) (t0 t1 : V) (H : Heap) : Option (Out × Heap) := law07_picker_re_C base law07_picker_re_c (law07_picker_re_e base) [(0, t0), (1, t1)] H []
theorem law07_picker_re_eq (base : Nat) (t0 t1 : V) (H : Heap) : law07_picker_re base t0 t1 H =
 beff (oVar H (.agg [(.int .i64 0), (.int .u64 0), (.int .u64 0), (.int .u64 0), (.int .u64 0), .nils])) fun v0 h1 =>
 bcall (E n_law07_picker_pick [t0, (.int .i64 11)] h1) (fun v2 h3 =>
 bnd (oBin .lss 6 t1 (.int .i64 1)) fun v4 =>
 cnd v4
 (bnd (oBin .rem 6 v2 (.int .i64 5)) fun v5 =>
 law07_picker_re_j1 base t0 t1 v0 v5 h3)
 (law07_picker_re_j1 base t0 t1 v0 v2 h3))
 (fun v2 h3 => pn false base v2 h3) := by kernel_rfl
theorem law07_picker_re_E (t0 t1 : V) (H : Heap) : E n_law07_picker_re [t0, t1] H = law07_picker_re H.length t0 t1 H := (EV_at Tryd.func55 (by kernel_rfl) (by kernel_rfl) (by kernel_rfl)).trans (by kernel_rfl)

def slices_IndexFunc_api_Re_api_Re_c : Code := bodyOf Tryd.f56
def slices_IndexFunc_api_Re_api_Re_ks : Ks := [(2, [0, 1, 7, 8])]
def slices_IndexFunc_api_Re_api_Re_e (base : Nat) : KC (Out × Heap) := xEnd Tryd.prog D false base 19 Tryd.f56.results.toList
def slices_IndexFunc_api_Re_api_Re_C (base : Nat) (c : Code) (k : KC (Out × Heap)) (t : Ts) (H : Heap) (d : Ds) : Option (Out × Heap) := xC Tryd.prog base true slices_IndexFunc_api_Re_api_Re_ks E 19 c k t H d
def slices_IndexFunc_api_Re_api_Re_l1 (base : Nat) (t0 t1 t7 t8 : V) (H : Heap) : Option (Out × Heap) :=
iterL (fun t H d again => slices_IndexFunc_api_Re_api_Re_C base (cAt [1, 0, 1, 0, 0] slices_IndexFunc_api_Re_api_Re_c) (loopK slices_IndexFunc_api_Re_api_Re_ks (cAt [1, 0, 1, 0, 0] slices_IndexFunc_api_Re_api_Re_c) again ((blockK 0 ((seqK (fun _ t => slices_IndexFunc_api_Re_api_Re_C base (cAt [1, 1] slices_IndexFunc_api_Re_api_Re_c) (slices_IndexFunc_api_Re_api_Re_e base) (trimA slices_IndexFunc_api_Re_api_Re_ks (cAt [1, 1] slices_IndexFunc_api_Re_api_Re_c) t)) (slices_IndexFunc_api_Re_api_Re_e base)))))) t H d) [(0, t0), (1, t1), (7, t7), (8, t8)] H []
theorem slices_IndexFunc_api_Re_api_Re_l1_eq (base : Nat) (t0 t1 t7 t8 : V) (H : Heap) : slices_IndexFunc_api_Re_api_Re_l1 base t0 t1 t7 t8 H =
 bnd (oBin .lss 6 t8 t7) fun v1 =>
 cnd v1
 (bnd (oIndexPtr 6 t0 t8) fun v2 =>
 bnd (oLoad true 6 H v2) fun v3 =>
 bcall (oDyn E t1 [v3] H) (fun v4 h5 =>
 cnd v4
 (rt false base t8 h5)
 (bnd (oBin .add 6 t8 (.int .i64 1)) fun v6 =>
 slices_IndexFunc_api_Re_api_Re_l1 base t0 t1 t7 v6 h5))
 (fun v4 h5 => pn false base v4 h5))
 (rt false base (.int .i64 (-1)) H) := (loop_eq (cAt [1, 0, 1, 0, 0] slices_IndexFunc_api_Re_api_Re_c) ((blockK 0 ((seqK (fun _ t => slices_IndexFunc_api_Re_api_Re_C base (cAt [1, 1] slices_IndexFunc_api_Re_api_Re_c) (slices_IndexFunc_api_Re_api_Re_e base) (trimA slices_IndexFunc_api_Re_api_Re_ks (cAt [1, 1] slices_IndexFunc_api_Re_api_Re_c) t)) (slices_IndexFunc_api_Re_api_Re_e base))))) _ H []).trans (by kernel_rfl)
def slices_IndexFunc_api_Re_api_Re (base : Nat) (t0 t1 : V) (H : Heap) : Option (Out × Heap) := slices_IndexFunc_api_Re_api_Re_C base slices_IndexFunc_api_Re_api_Re_c (slices_IndexFunc_api_Re_api_Re_e base) [(0, t0), (1, t1)] H []
theorem slices_IndexFunc_api_Re_api_Re_eq (base : Nat) (t0 t1 : V) (H : Heap) : slices_IndexFunc_api_Re_api_Re base t0 t1 H =
 bnd (oLenSl t0) fun v0 =>
 slices_IndexFunc_api_Re_api_Re_l1 base t0 t1 v0 (.int .i64 0) H := by kernel_rfl
theorem slices_IndexFunc_api_Re_api_Re_E (t0 t1 : V) (H : Heap) : E n_slices_IndexFunc_api_Re_api_Re [t0, t1] H = slices_IndexFunc_api_Re_api_Re H.length t0 t1 H := (EV_at Tryd.func56 (by kernel_rfl) (by kernel_rfl) (by kernel_rfl)).trans (by kernel_rfl)

def slices_EqualFunc_api_Re_api_Re_api_Re_api_Re_c : Code := bodyOf Tryd.f57
def slices_EqualFunc_api_Re_api_Re_api_Re_api_Re_ks : Ks := [(4, [1, 2, 15, 16, 17])]
def slices_EqualFunc_api_Re_api_Re_api_Re_api_Re_e (base : Nat) : KC (Out × Heap) := xEnd Tryd.prog D false base 32 Tryd.f57.results.toList
def slices_EqualFunc_api_Re_api_Re_api_Re_api_Re_C (base : Nat) (c : Code) (k : KC (Out × Heap)) (t : Ts) (H : Heap) (d : Ds) : Option (Out × Heap) := xC Tryd.prog base false slices_EqualFunc_api_Re_api_Re_api_Re_api_Re_ks E 32 c k t H d
def slices_EqualFunc_api_Re_api_Re_api_Re_api_Re_l1 (base : Nat) (t1 t2 t15 t16 t17 : V) (H : Heap) : Option (Out × Heap) :=
iterL (fun t H d again => slices_EqualFunc_api_Re_api_Re_api_Re_api_Re_C base (cAt [1, 1, 0, 1, 0, 0] slices_EqualFunc_api_Re_api_Re_api_Re_api_Re_c) (loopK slices_EqualFunc_api_Re_api_Re_api_Re_api_Re_ks (cAt [1, 1, 0, 1, 0, 0] slices_EqualFunc_api_Re_api_Re_api_Re_api_Re_c) again ((blockK 0 ((seqK (fun _ t => slices_EqualFunc_api_Re_api_Re_api_Re_api_Re_C base (cAt [1, 1, 1] slices_EqualFunc_api_Re_api_Re_api_Re_api_Re_c) (slices_EqualFunc_api_Re_api_Re_api_Re_api_Re_e base) (trimA slices_EqualFunc_api_Re_api_Re_api_Re_api_Re_ks (cAt [1, 1, 1] slices_EqualFunc_api_Re_api_Re_api_Re_api_Re_c) t)) (slices_EqualFunc_api_Re_api_Re_api_Re_api_Re_e base)))))) t H d) [(1, t1), (2, t2), (15, t15), (16, t16), (17, t17)] H []
theorem slices_EqualFunc_api_Re_api_Re_api_Re_api_Re_l1_eq (base : Nat) (t1 t2 t15 t16 t17 : V) (H : Heap) : slices_EqualFunc_api_Re_api_Re_api_Re_api_Re_l1 base t1 t2 t15 t16 t17 H =
 bnd (oBin .lss 6 t17 t16) fun v4 =>
 cnd v4
 (bnd (oIndexPtr 6 t15 t17) fun v5 =>
 bnd (oLoad true 6 H v5) fun v6 =>
 beff (oVar H (.agg [(.int .i64 0), (.int .u64 0), (.int .u64 0), (.int .u64 0), (.int .u64 0), .nils])) fun v7 h8 =>
 beff (oStore base 6 h8 v7 v6) fun v9 h10 =>
 bnd (oIndexPtr 6 t1 t17) fun v11 =>
 bnd (oLoad true 6 h10 v11) fun v12 =>
 beff (oVar h10 (.agg [(.int .i64 0), (.int .u64 0), (.int .u64 0), (.int .u64 0), (.int .u64 0), .nils])) fun v13 h14 =>
 beff (oStore base 6 h14 v13 v12) fun v15 h16 =>
 bnd (oLoad true 6 h16 v7) fun v17 =>
 bnd (oLoad true 6 h16 v13) fun v18 =>
 bcall (oDyn E t2 [v17, v18] h16) (fun v19 h20 =>
 bnd (oUn .not v19) fun v21 =>
 cnd v21
 (rt false base (.bool false) h20)
 (bnd (oBin .add 6 t17 (.int .i64 1)) fun v22 =>
 slices_EqualFunc_api_Re_api_Re_api_Re_api_Re_l1 base t1 t2 t15 t16 v22 h20))
 (fun v19 h20 => pn false base v19 h20))
 (rt false base (.bool true) H) := (loop_eq (cAt [1, 1, 0, 1, 0, 0] slices_EqualFunc_api_Re_api_Re_api_Re_api_Re_c) ((blockK 0 ((seqK (fun _ t => slices_EqualFunc_api_Re_api_Re_api_Re_api_Re_C base (cAt [1, 1, 1] slices_EqualFunc_api_Re_api_Re_api_Re_api_Re_c) (slices_EqualFunc_api_Re_api_Re_api_Re_api_Re_e base) (trimA slices_EqualFunc_api_Re_api_Re_api_Re_api_Re_ks (cAt [1, 1, 1] slices_EqualFunc_api_Re_api_Re_api_Re_api_Re_c) t)) (slices_EqualFunc_api_Re_api_Re_api_Re_api_Re_e base))))) _ H []).trans (by kernel_rfl)
def slices_EqualFunc_api_Re_api_Re_api_Re_api_Re (base : Nat) (t0 t1 t2 : V) (H : Heap) : Option (Out × Heap) := slices_EqualFunc_api_Re_api_Re_api_Re_api_Re_C base slices_EqualFunc_api_Re_api_Re_api_Re_api_Re_c (slices_EqualFunc_api_Re_api_Re_api_Re_api_Re_e base) [(0, t0), (1, t1), (2, t2)] H []
theorem slices_EqualFunc_api_Re_api_Re_api_Re_api_Re_eq (base : Nat) (t0 t1 t2 : V) (H : Heap) : slices_EqualFunc_api_Re_api_Re_api_Re_api_Re base t0 t1 t2 H =
 bnd (oLenSl t0) fun v0 =>
 bnd (oLenSl t1) fun v1 =>
 bnd (oBin .neq 6 v0 v1) fun v2 =>
 cnd v2
 (rt false base (.bool false) H)
 (bnd (oLenSl t0) fun v3 =>
 slices_EqualFunc_api_Re_api_Re_api_Re_api_Re_l1 base t1 t2 t0 v3 (.int .i64 0) H) := by kernel_rfl
theorem slices_EqualFunc_api_Re_api_Re_api_Re_api_Re_E (t0 t1 t2 : V) (H : Heap) : E n_slices_EqualFunc_api_Re_api_Re_api_Re_api_Re [t0, t1, t2] H = slices_EqualFunc_api_Re_api_Re_api_Re_api_Re H.length t0 t1 t2 H := (EV_at Tryd.func57 (by kernel_rfl) (by kernel_rfl) (by kernel_rfl)).trans (by kernel_rfl)

def regex_is_1_c : Code := bodyOf Tryd.f58
def regex_is_1_ks : Ks := []
def regex_is_1_e (base : Nat) : KC (Out × Heap) := xEnd Tryd.prog D false base 8 Tryd.f58.results.toList
def regex_is_1_C (base : Nat) (c : Code) (k : KC (Out × Heap)) (t : Ts) (H : Heap) (d : Ds) : Option (Out × Heap) := xC Tryd.prog base false regex_is_1_ks E 8 c k t H d
def regex_is_1 (base : Nat) (t0 t1 : V) (H : Heap) : Option (Out × Heap) := regex_is_1_C base regex_is_1_c (regex_is_1_e base) [(0, t0), (1, t1)] H []
theorem regex_is_1_eq (base : Nat) (t0 t1 : V) (H : Heap) : regex_is_1 base t0 t1 H =
 beff (oVar H t0) fun v0 h1 =>
 bnd (oFieldPtr v0 0) fun v2 =>
 bnd (oLoad false 1 h1 v2) fun v3 =>
 bnd (oLoad false 1 h1 t1) fun v4 =>
 bnd (oBin .eql 6 v3 v4) fun v5 =>
 rt false base v5 h1 := by kernel_rfl
theorem regex_is_1_E (t0 t1 : V) (H : Heap) : E n_regex_is_1 [t0, t1] H = regex_is_1 H.length t0 t1 H := (EV_at Tryd.func58 (by kernel_rfl) (by kernel_rfl) (by kernel_rfl)).trans (by kernel_rfl)
end
end Go.Proofs.YtjnkigaiogjfcaaDoor
end

