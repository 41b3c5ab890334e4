/- Fn7: a part of the proof that each law of this seat answers true at every input. No condition. -/
import Derived.Test.YthcjjicplodhjaaDoorHint
import Derived.KernelRfl
set_option linter.unusedVariables false
set_option linter.unusedSimpArgs false
set_option maxRecDepth 20000
section
/- Printed: what functions do. -/
namespace Go.Proofs.YthcjjicplodhjaaDoor
open Go Go.Ev
set_option linter.unusedVariables false
noncomputable section

def gosem_cut_vars_c : Code := bodyOf Tryd.f141
def gosem_cut_vars_ks : Ks := []
def gosem_cut_vars_e (base : Nat) : KC (Out × Heap) := xEnd Tryd.prog D false base 9 Tryd.f141.results.toList
def gosem_cut_vars_C (base : Nat) (c : Code) (k : KC (Out × Heap)) (t : Ts) (H : Heap) (d : Ds) : Option (Out × Heap) := xC Tryd.prog base false gosem_cut_vars_ks E 9 c k t H d
def gosem_cut_vars (base : Nat) (H : Heap) : Option (Out × Heap) := gosem_cut_vars_C base gosem_cut_vars_c (gosem_cut_vars_e base) [] H []
theorem gosem_cut_vars_eq (base : Nat) (H : Heap) : gosem_cut_vars base  H =
 bnd (oBuildA [(.int .u8 0), (.int .u8 0), (.int .u8 0), (.int .u8 0), (.int .u8 0), (.int .u8 0), (.int .u8 0), (.int .u8 0), (.int .u8 0), (.int .u8 0), (.int .u8 0), (.int .u8 0), (.int .u8 0), (.int .u8 0), (.int .u8 0), (.int .u8 0), (.int .u8 0), (.int .u8 0), (.int .u8 0), (.int .u8 0), (.int .u8 0), (.int .u8 0), (.int .u8 0), (.int .u8 0), (.int .u8 0), (.int .u8 0), (.int .u8 0), (.int .u8 0), (.int .u8 0), (.int .u8 0), (.int .u8 0), (.int .u8 0)] 1 [(0, (.int .u8 0)), (1, (.int .u8 1)), (2, (.int .u8 28)), (3, (.int .u8 2)), (4, (.int .u8 29)), (5, (.int .u8 14)), (6, (.int .u8 24)), (7, (.int .u8 3)), (8, (.int .u8 30)), (9, (.int .u8 22)), (10, (.int .u8 20)), (11, (.int .u8 15)), (12, (.int .u8 25)), (13, (.int .u8 17)), (14, (.int .u8 4)), (15, (.int .u8 8)), (16, (.int .u8 31)), (17, (.int .u8 27)), (18, (.int .u8 13)), (19, (.int .u8 23)), (20, (.int .u8 21)), (21, (.int .u8 19)), (22, (.int .u8 16)), (23, (.int .u8 7)), (24, (.int .u8 26)), (25, (.int .u8 12)), (26, (.int .u8 18)), (27, (.int .u8 6)), (28, (.int .u8 11)), (29, (.int .u8 5)), (30, (.int .u8 10)), (31, (.int .u8 9))]) fun v0 =>
 beff (oStore base 32 H .junk v0) fun v1 h2 =>
 bnd (oBuildA [(.int .u8 0), (.int .u8 0), (.int .u8 0), (.int .u8 0), (.int .u8 0), (.int .u8 0), (.int .u8 0), (.int .u8 0), (.int .u8 0), (.int .u8 0), (.int .u8 0), (.int .u8 0), (.int .u8 0), (.int .u8 0), (.int .u8 0), (.int .u8 0), (.int .u8 0), (.int .u8 0), (.int .u8 0), (.int .u8 0), (.int .u8 0), (.int .u8 0), (.int .u8 0), (.int .u8 0), (.int .u8 0), (.int .u8 0), (.int .u8 0), (.int .u8 0), (.int .u8 0), (.int .u8 0), (.int .u8 0), (.int .u8 0), (.int .u8 0), (.int .u8 0), (.int .u8 0), (.int .u8 0), (.int .u8 0), (.int .u8 0), (.int .u8 0), (.int .u8 0), (.int .u8 0), (.int .u8 0), (.int .u8 0), (.int .u8 0), (.int .u8 0), (.int .u8 0), (.int .u8 0), (.int .u8 0), (.int .u8 0), (.int .u8 0), (.int .u8 0), (.int .u8 0), (.int .u8 0), (.int .u8 0), (.int .u8 0), (.int .u8 0), (.int .u8 0), (.int .u8 0), (.int .u8 0), (.int .u8 0), (.int .u8 0), (.int .u8 0), (.int .u8 0), (.int .u8 0)] 1 [(0, (.int .u8 0)), (1, (.int .u8 1)), (2, (.int .u8 56)), (3, (.int .u8 2)), (4, (.int .u8 57)), (5, (.int .u8 49)), (6, (.int .u8 28)), (7, (.int .u8 3)), (8, (.int .u8 61)), (9, (.int .u8 58)), (10, (.int .u8 42)), (11, (.int .u8 50)), (12, (.int .u8 38)), (13, (.int .u8 29)), (14, (.int .u8 17)), (15, (.int .u8 4)), (16, (.int .u8 62)), (17, (.int .u8 47)), (18, (.int .u8 59)), (19, (.int .u8 36)), (20, (.int .u8 45)), (21, (.int .u8 43)), (22, (.int .u8 51)), (23, (.int .u8 22)), (24, (.int .u8 53)), (25, (.int .u8 39)), (26, (.int .u8 33)), (27, (.int .u8 30)), (28, (.int .u8 24)), (29, (.int .u8 18)), (30, (.int .u8 12)), (31, (.int .u8 5)), (32, (.int .u8 63)), (33, (.int .u8 55)), (34, (.int .u8 48)), (35, (.int .u8 27)), (36, (.int .u8 60)), (37, (.int .u8 41)), (38, (.int .u8 37)), (39, (.int .u8 16)), (40, (.int .u8 46)), (41, (.int .u8 35)), (42, (.int .u8 44)), (43, (.int .u8 21)), (44, (.int .u8 52)), (45, (.int .u8 32)), (46, (.int .u8 23)), (47, (.int .u8 11)), (48, (.int .u8 54)), (49, (.int .u8 26)), (50, (.int .u8 40)), (51, (.int .u8 15)), (52, (.int .u8 34)), (53, (.int .u8 20)), (54, (.int .u8 31)), (55, (.int .u8 10)), (56, (.int .u8 25)), (57, (.int .u8 14)), (58, (.int .u8 19)), (59, (.int .u8 9)), (60, (.int .u8 13)), (61, (.int .u8 8)), (62, (.int .u8 7)), (63, (.int .u8 6))]) fun v3 =>
 beff (oStore base 64 h2 .junk v3) fun v4 h5 =>
 bnd (oBuildA [(.int .u64 0), (.int .u64 0), (.int .u64 0), (.int .u64 0), (.int .u64 0), (.int .u64 0), (.int .u64 0), (.int .u64 0), (.int .u64 0), (.int .u64 0), (.int .u64 0), (.int .u64 0), (.int .u64 0), (.int .u64 0), (.int .u64 0), (.int .u64 0), (.int .u64 0), (.int .u64 0), (.int .u64 0), (.int .u64 0)] 1 [(0, (.int .u64 1)), (1, (.int .u64 10)), (2, (.int .u64 100)), (3, (.int .u64 1000)), (4, (.int .u64 10000)), (5, (.int .u64 100000)), (6, (.int .u64 1000000)), (7, (.int .u64 10000000)), (8, (.int .u64 100000000)), (9, (.int .u64 1000000000)), (10, (.int .u64 10000000000)), (11, (.int .u64 100000000000)), (12, (.int .u64 1000000000000)), (13, (.int .u64 10000000000000)), (14, (.int .u64 100000000000000)), (15, (.int .u64 1000000000000000)), (16, (.int .u64 10000000000000000)), (17, (.int .u64 100000000000000000)), (18, (.int .u64 1000000000000000000)), (19, (.int .u64 10000000000000000000))]) fun v6 =>
 beff (oStore base 20 h5 .junk v6) fun v7 h8 =>
 bnd (oBuild [(.int .u8 0), (.int .u8 0)] [(0, 1), (1, 1)] [(0, (.int .u8 128)), (1, (.int .u8 191))]) fun v9 =>
 bnd (oBuild [(.int .u8 0), (.int .u8 0)] [(0, 1), (1, 1)] [(0, (.int .u8 160)), (1, (.int .u8 191))]) fun v10 =>
 bnd (oBuild [(.int .u8 0), (.int .u8 0)] [(0, 1), (1, 1)] [(0, (.int .u8 128)), (1, (.int .u8 159))]) fun v11 =>
 bnd (oBuild [(.int .u8 0), (.int .u8 0)] [(0, 1), (1, 1)] [(0, (.int .u8 144)), (1, (.int .u8 191))]) fun v12 =>
 bnd (oBuild [(.int .u8 0), (.int .u8 0)] [(0, 1), (1, 1)] [(0, (.int .u8 128)), (1, (.int .u8 143))]) fun v13 =>
 bnd (oBuildA [(.int .u8 0), (.int .u8 0), (.int .u8 0), (.int .u8 0), (.int .u8 0), (.int .u8 0), (.int .u8 0), (.int .u8 0), (.int .u8 0), (.int .u8 0), (.int .u8 0), (.int .u8 0), (.int .u8 0), (.int .u8 0), (.int .u8 0), (.int .u8 0), (.int .u8 0), (.int .u8 0), (.int .u8 0), (.int .u8 0), (.int .u8 0), (.int .u8 0), (.int .u8 0), (.int .u8 0), (.int .u8 0), (.int .u8 0), (.int .u8 0), (.int .u8 0), (.int .u8 0), (.int .u8 0), (.int .u8 0), (.int .u8 0)] 2 [(0, v9), (1, v10), (2, v11), (3, v12), (4, v13)]) fun v14 =>
 beff (oStore base 32 h8 .junk v14) fun v15 h16 =>
 rt false base (.tup []) h16 := by kernel_rfl
theorem gosem_cut_vars_E (H : Heap) : E n_gosem_cut_vars [] H = gosem_cut_vars H.length  H := (EV_at Tryd.func141 (by kernel_rfl) (by kernel_rfl) (by kernel_rfl)).trans (by kernel_rfl)
end
end Go.Proofs.YthcjjicplodhjaaDoor
end

