/- Fn4: a part of the proof that each law of this seat answers true at every input. No condition. -/
import Derived.Test.YtdnmpaielmfiiaaDoorHint
import Derived.KernelRfl
set_option linter.unusedVariables false
set_option linter.unusedSimpArgs false
set_option maxRecDepth 20000
section
namespace Go.Proofs.YtdnmpaielmfiiaaDoor
open Go Go.Ev
noncomputable section
def Qkt : Code := QO Tryd.f60
def QlI : Ks := []
def Qkr (base : Nat) : KC (Out × Qa) := QN Tryd.prog D false base 9 Tryd.f60.results.toList
def QiU (base : Nat) (c : Code) (k : KC (Out × Qa)) (t : Ts) (H : Qa) (d : Ds) : Option (Out × Qa) := xC Tryd.prog base false QlI E 9 c k t H d
def Qd2 (base : Nat) (t0 : V) (H : Qa) : Option (Out × Qa) := QiU base Qkt (Qkr base) [(0,t0)] H []
theorem QpI (base : Nat) (t0 : V) (H : Qa) : Qd2 base t0 H =
 beff (QB H t0) fun v0 h1 =>
 beff (QB h1 (.agg [(.int .i64 0),(.int .u64 0),(.int .u64 0),(.int .u64 0),(.int .u64 0),.nils])) fun v2 h3 =>
 bnd (Qd true 4 h3 v0) fun v4 =>
 bnd (MX [(.int .u64 0),(.int .u64 0),(.int .u64 0),(.int .u64 0)] 1 []) fun v5 =>
 bnd (Qb .eql 46 v4 v5) fun v6 =>
 cnd v6
 (bnd (Zj [(.int .i64 0),(.int .u64 0),(.int .u64 0),(.int .u64 0),(.int .u64 0),.nils] [(0,1),(1,4),(5,1)] [(0,(.int .i64 0))]) fun v7 =>
 beff (Qs base 6 h3 v2 v7) fun v8 h9 =>
 bnd (Qd true 6 h9 v2) fun v10 =>
 rt false base v10 h9)
 (bnd (Qd true 4 h3 v0) fun v11 =>
 bnd (Zj [(.int .i64 0),(.int .u64 0),(.int .u64 0),(.int .u64 0),(.int .u64 0),.nils] [(0,1),(1,4),(5,1)] [(0,(.int .i64 2)),(1,v11)]) fun v12 =>
 beff (Qs base 6 h3 v2 v12) fun v13 h14 =>
 bnd (Qd true 6 h14 v2) fun v15 =>
 rt false base v15 h14) := by kernel_rfl
theorem Qrt (t0 : V) (H : Qa) : E Cb [t0] H = Qd2 H.length t0 H := (QR Tryd.func60 (by kernel_rfl) (by kernel_rfl) (by kernel_rfl)).trans (by kernel_rfl)
def QjZ : Code := QO Tryd.f61
def QiA : Ks := []
def Qn1 (base : Nat) : KC (Out × Qa) := QN Tryd.prog D false base 9 Tryd.f61.results.toList
def QmK (base : Nat) (c : Code) (k : KC (Out × Qa)) (t : Ts) (H : Qa) (d : Ds) : Option (Out × Qa) := xC Tryd.prog base true QiA E 9 c k t H d
def TV (base : Nat) (t0 t1 : V) (H : Qa) : Option (Out × Qa) := QmK base QjZ (Qn1 base) [(0,t0),(1,t1)] H []
theorem Qb9 (base : Nat) (t0 t1 : V) (H : Qa) : TV base t0 t1 H =
 bnd (QM t0) fun v0 =>
 bcall (E QdT [t0,v0,t1] H) (fun v1 h2 =>
 rt false base (.tup []) h2)
 (fun v1 h2 => pn false base v1 h2) := by kernel_rfl
theorem TP (t0 t1 : V) (H : Qa) : E PC [t0,t1] H = TV H.length t0 t1 H := (QR Tryd.func61 (by kernel_rfl) (by kernel_rfl) (by kernel_rfl)).trans (by kernel_rfl)
def QqW : Code := QO Tryd.f62
def Qm2 : Ks := []
def QiE (base : Nat) : KC (Out × Qa) := QN Tryd.prog D false base 10 Tryd.f62.results.toList
def Ql6 (base : Nat) (c : Code) (k : KC (Out × Qa)) (t : Ts) (H : Qa) (d : Ds) : Option (Out × Qa) := xC Tryd.prog base false Qm2 E 10 c k t H d
def QhB (base : Nat) (t0 t1 : V) (H : Qa) : Option (Out × Qa) := Ql6 base QqW (QiE base) [(0,t0),(1,t1)] H []
theorem QiB (base : Nat) (t0 t1 : V) (H : Qa) : QhB base t0 t1 H =
 beff (QB H t0) fun v0 h1 =>
 beff (QB h1 t1) fun v2 h3 =>
 bnd (Qd true 6 h3 v0) fun v4 =>
 bcall (E NB [v4] h3) (fun v5 h6 =>
 bnd (bnd (Qd true 6 h6 v2) fun v7 => sch (sam (Qd true 6 h3 v2) v7) (
 some v7)) fun v7 =>
 bcall (E NB [v7] h6) (fun v8 h9 =>
 bcall (E QcL [v5,v8] h9) (fun v10 h11 =>
 rt false base v10 h11)
 (fun v10 h11 => pn false base v10 h11))
 (fun v8 h9 => pn false base v8 h9))
 (fun v5 h6 => sch (tlb (Qd true 6 h3 v2) fun v12 => true) (pn false base v5 h6)) := by kernel_rfl
theorem QnA (t0 t1 : V) (H : Qa) : E Um [t0,t1] H = QhB H.length t0 t1 H := (QR Tryd.func62 (by kernel_rfl) (by kernel_rfl) (by kernel_rfl)).trans (by kernel_rfl)
def Qm : Code := QO Tryd.f65
def QD : Ks := [(4,[0,1,5]),(9,[0,1,5,6,7]),(10,[0,1,5,6,7])]
def QI (base : Nat) : KC (Out × Qa) := QN Tryd.prog D false base 66 Tryd.f65.results.toList
def QJ (base : Nat) (c : Code) (k : KC (Out × Qa)) (t : Ts) (H : Qa) (d : Ds) : Option (Out × Qa) := xC Tryd.prog base true QD E 66 c k t H d
def F3 (base : Nat) (t0 t1 t5 : V) (H : Qa) : Option (Out × Qa) :=
Qt (fun t H d again => QJ base (cAt [1,1,0,1,0,0] Qm) (Ql QD (cAt [1,1,0,1,0,0] Qm) again ((Qe 0 ((Qg (fun _ t => QJ base (cAt [1,1,1] Qm) (QI base) (Qf QD (cAt [1,1,1] Qm) t)) (QI base)))))) t H d) [(0,t0),(1,t1),(5,t5)] H []
def NN (base : Nat) (t0 t1 t5 t6 t7 : V) (H : Qa) : Option (Out × Qa) :=
Qt (fun t H d again => QJ base (cAt [1,1,0,1,0,0,1,0,0,1,0,1,0,1,0,0] Qm) (Ql QD (cAt [1,1,0,1,0,0,1,0,0,1,0,1,0,1,0,0] Qm) again ((Qe 2 ((Qg (fun _ t => QJ base (cAt [1,1,0,1,0,0,1,0,0,1,0,1,1] Qm) ((Qe 1 ((Qg (fun _ t => QJ base (cAt [1,1,0,1,0,0,1,1] Qm) ((Ql QD (cAt [1,1,0,1,0,0] Qm) (Qt (fun t H d again => QJ base (cAt [1,1,0,1,0,0] Qm) (Ql QD (cAt [1,1,0,1,0,0] Qm) again ((Qe 0 ((Qg (fun _ t => QJ base (cAt [1,1,1] Qm) (QI base) (Qf QD (cAt [1,1,1] Qm) t)) (QI base)))))) t H d)) ((Qe 0 ((Qg (fun _ t => QJ base (cAt [1,1,1] Qm) (QI base) (Qf QD (cAt [1,1,1] Qm) t)) (QI base))))))) (Qf QD (cAt [1,1,0,1,0,0,1,1] Qm) t)) ((Ql QD (cAt [1,1,0,1,0,0] Qm) (Qt (fun t H d again => QJ base (cAt [1,1,0,1,0,0] Qm) (Ql QD (cAt [1,1,0,1,0,0] Qm) again ((Qe 0 ((Qg (fun _ t => QJ base (cAt [1,1,1] Qm) (QI base) (Qf QD (cAt [1,1,1] Qm) t)) (QI base)))))) t H d)) ((Qe 0 ((Qg (fun _ t => QJ base (cAt [1,1,1] Qm) (QI base) (Qf QD (cAt [1,1,1] Qm) t)) (QI base))))))))))) (Qf QD (cAt [1,1,0,1,0,0,1,0,0,1,0,1,1] Qm) t)) ((Qe 1 ((Qg (fun _ t => QJ base (cAt [1,1,0,1,0,0,1,1] Qm) ((Ql QD (cAt [1,1,0,1,0,0] Qm) (Qt (fun t H d again => QJ base (cAt [1,1,0,1,0,0] Qm) (Ql QD (cAt [1,1,0,1,0,0] Qm) again ((Qe 0 ((Qg (fun _ t => QJ base (cAt [1,1,1] Qm) (QI base) (Qf QD (cAt [1,1,1] Qm) t)) (QI base)))))) t H d)) ((Qe 0 ((Qg (fun _ t => QJ base (cAt [1,1,1] Qm) (QI base) (Qf QD (cAt [1,1,1] Qm) t)) (QI base))))))) (Qf QD (cAt [1,1,0,1,0,0,1,1] Qm) t)) ((Ql QD (cAt [1,1,0,1,0,0] Qm) (Qt (fun t H d again => QJ base (cAt [1,1,0,1,0,0] Qm) (Ql QD (cAt [1,1,0,1,0,0] Qm) again ((Qe 0 ((Qg (fun _ t => QJ base (cAt [1,1,1] Qm) (QI base) (Qf QD (cAt [1,1,1] Qm) t)) (QI base)))))) t H d)) ((Qe 0 ((Qg (fun _ t => QJ base (cAt [1,1,1] Qm) (QI base) (Qf QD (cAt [1,1,1] Qm) t)) (QI base)))))))))))))))) t H d) [(0,t0),(1,t1),(5,t5),(6,t6),(7,t7)] H []
def Es (base : Nat) (t0 t1 t5 t6 t7 : V) (H : Qa) : Option (Out × Qa) :=
QJ base (cAt [1,1,0,1,0,0,1,0,0,1,0,1,0,1,0,0,1,1] Qm) ((Ql QD (cAt [1,1,0,1,0,0,1,0,0,1,0,1,0,1,0,0] Qm) (Qt (fun t H d again => QJ base (cAt [1,1,0,1,0,0,1,0,0,1,0,1,0,1,0,0] Qm) (Ql QD (cAt [1,1,0,1,0,0,1,0,0,1,0,1,0,1,0,0] Qm) again ((Qe 2 ((Qg (fun _ t => QJ base (cAt [1,1,0,1,0,0,1,0,0,1,0,1,1] Qm) ((Qe 1 ((Qg (fun _ t => QJ base (cAt [1,1,0,1,0,0,1,1] Qm) ((Ql QD (cAt [1,1,0,1,0,0] Qm) (Qt (fun t H d again => QJ base (cAt [1,1,0,1,0,0] Qm) (Ql QD (cAt [1,1,0,1,0,0] Qm) again ((Qe 0 ((Qg (fun _ t => QJ base (cAt [1,1,1] Qm) (QI base) (Qf QD (cAt [1,1,1] Qm) t)) (QI base)))))) t H d)) ((Qe 0 ((Qg (fun _ t => QJ base (cAt [1,1,1] Qm) (QI base) (Qf QD (cAt [1,1,1] Qm) t)) (QI base))))))) (Qf QD (cAt [1,1,0,1,0,0,1,1] Qm) t)) ((Ql QD (cAt [1,1,0,1,0,0] Qm) (Qt (fun t H d again => QJ base (cAt [1,1,0,1,0,0] Qm) (Ql QD (cAt [1,1,0,1,0,0] Qm) again ((Qe 0 ((Qg (fun _ t => QJ base (cAt [1,1,1] Qm) (QI base) (Qf QD (cAt [1,1,1] Qm) t)) (QI base)))))) t H d)) ((Qe 0 ((Qg (fun _ t => QJ base (cAt [1,1,1] Qm) (QI base) (Qf QD (cAt [1,1,1] Qm) t)) (QI base))))))))))) (Qf QD (cAt [1,1,0,1,0,0,1,0,0,1,0,1,1] Qm) t)) ((Qe 1 ((Qg (fun _ t => QJ base (cAt [1,1,0,1,0,0,1,1] Qm) ((Ql QD (cAt [1,1,0,1,0,0] Qm) (Qt (fun t H d again => QJ base (cAt [1,1,0,1,0,0] Qm) (Ql QD (cAt [1,1,0,1,0,0] Qm) again ((Qe 0 ((Qg (fun _ t => QJ base (cAt [1,1,1] Qm) (QI base) (Qf QD (cAt [1,1,1] Qm) t)) (QI base)))))) t H d)) ((Qe 0 ((Qg (fun _ t => QJ base (cAt [1,1,1] Qm) (QI base) (Qf QD (cAt [1,1,1] Qm) t)) (QI base))))))) (Qf QD (cAt [1,1,0,1,0,0,1,1] Qm) t)) ((Ql QD (cAt [1,1,0,1,0,0] Qm) (Qt (fun t H d again => QJ base (cAt [1,1,0,1,0,0] Qm) (Ql QD (cAt [1,1,0,1,0,0] Qm) again ((Qe 0 ((Qg (fun _ t => QJ base (cAt [1,1,1] Qm) (QI base) (Qf QD (cAt [1,1,1] Qm) t)) (QI base)))))) t H d)) ((Qe 0 ((Qg (fun _ t => QJ base (cAt [1,1,1] Qm) (QI base) (Qf QD (cAt [1,1,1] Qm) t)) (QI base)))))))))))))))) t H d)) ((Qe 2 ((Qg (fun _ t => QJ base (cAt [1,1,0,1,0,0,1,0,0,1,0,1,1] Qm) ((Qe 1 ((Qg (fun _ t => QJ base (cAt [1,1,0,1,0,0,1,1] Qm) ((Ql QD (cAt [1,1,0,1,0,0] Qm) (Qt (fun t H d again => QJ base (cAt [1,1,0,1,0,0] Qm) (Ql QD (cAt [1,1,0,1,0,0] Qm) again ((Qe 0 ((Qg (fun _ t => QJ base (cAt [1,1,1] Qm) (QI base) (Qf QD (cAt [1,1,1] Qm) t)) (QI base)))))) t H d)) ((Qe 0 ((Qg (fun _ t => QJ base (cAt [1,1,1] Qm) (QI base) (Qf QD (cAt [1,1,1] Qm) t)) (QI base))))))) (Qf QD (cAt [1,1,0,1,0,0,1,1] Qm) t)) ((Ql QD (cAt [1,1,0,1,0,0] Qm) (Qt (fun t H d again => QJ base (cAt [1,1,0,1,0,0] Qm) (Ql QD (cAt [1,1,0,1,0,0] Qm) again ((Qe 0 ((Qg (fun _ t => QJ base (cAt [1,1,1] Qm) (QI base) (Qf QD (cAt [1,1,1] Qm) t)) (QI base)))))) t H d)) ((Qe 0 ((Qg (fun _ t => QJ base (cAt [1,1,1] Qm) (QI base) (Qf QD (cAt [1,1,1] Qm) t)) (QI base))))))))))) (Qf QD (cAt [1,1,0,1,0,0,1,0,0,1,0,1,1] Qm) t)) ((Qe 1 ((Qg (fun _ t => QJ base (cAt [1,1,0,1,0,0,1,1] Qm) ((Ql QD (cAt [1,1,0,1,0,0] Qm) (Qt (fun t H d again => QJ base (cAt [1,1,0,1,0,0] Qm) (Ql QD (cAt [1,1,0,1,0,0] Qm) again ((Qe 0 ((Qg (fun _ t => QJ base (cAt [1,1,1] Qm) (QI base) (Qf QD (cAt [1,1,1] Qm) t)) (QI base)))))) t H d)) ((Qe 0 ((Qg (fun _ t => QJ base (cAt [1,1,1] Qm) (QI base) (Qf QD (cAt [1,1,1] Qm) t)) (QI base))))))) (Qf QD (cAt [1,1,0,1,0,0,1,1] Qm) t)) ((Ql QD (cAt [1,1,0,1,0,0] Qm) (Qt (fun t H d again => QJ base (cAt [1,1,0,1,0,0] Qm) (Ql QD (cAt [1,1,0,1,0,0] Qm) again ((Qe 0 ((Qg (fun _ t => QJ base (cAt [1,1,1] Qm) (QI base) (Qf QD (cAt [1,1,1] Qm) t)) (QI base)))))) t H d)) ((Qe 0 ((Qg (fun _ t => QJ base (cAt [1,1,1] Qm) (QI base) (Qf QD (cAt [1,1,1] Qm) t)) (QI base))))))))))))))))) [(0,t0),(1,t1),(5,t5),(6,t6),(7,t7)] H []
theorem QjW (base : Nat) (t0 t1 t5 t6 t7 : V) (H : Qa) : Es base t0 t1 t5 t6 t7 H =
 bnd (Qb .add 6 t7 (.int .i64 1)) fun v28 =>
 NN base t0 t1 t5 t6 v28 H := by kernel_rfl
theorem Dd (base : Nat) (t0 t1 t5 t6 t7 : V) (H : Qa) : NN base t0 t1 t5 t6 t7 H =
 bnd (QM t6) fun v12 =>
 bnd (Qb .lss 6 t7 v12) fun v13 =>
 cnd v13
 (bnd (Qx 6 t6 t7) fun v14 =>
 bnd (Qd true 6 H v14) fun v15 =>
 bnd (Qb .sub 6 t7 (.int .i64 1)) fun v16 =>
 bnd (Qx 6 t6 v16) fun v17 =>
 bnd (Qd true 6 H v17) fun v18 =>
 bcall (J2 E t1 [v15,v18] H) (fun v19 h20 =>
 bnd (oUn .not v19) fun v21 =>
 cnd v21
 (bnd (Qx 6 t6 t7) fun v22 =>
 bnd (Qd true 6 h20 v22) fun v23 =>
 bnd (Qx 6 t0 t5) fun v24 =>
 beff (Qs base 6 h20 v24 v23) fun v25 h26 =>
 bnd (Qb .add 6 t5 (.int .i64 1)) fun v27 =>
 Es base t0 t1 v27 t6 t7 h26)
 (Es base t0 t1 t5 t6 t7 h20))
 (fun v19 h20 => pn false base v19 h20))
 (bnd (JP 6 t0 (some t5) none none) fun v29 =>
 beff (Le base 6 [(.int .i64 0),(.int .u64 0),(.int .u64 0),(.int .u64 0),(.int .u64 0),.nils] v29 H) fun v30 h31 =>
 bnd (JP 6 t0 none (some t5) none) fun v32 =>
 rt false base v32 h31) := (Za (cAt [1,1,0,1,0,0,1,0,0,1,0,1,0,1,0,0] Qm) ((Qe 2 ((Qg (fun _ t => QJ base (cAt [1,1,0,1,0,0,1,0,0,1,0,1,1] Qm) ((Qe 1 ((Qg (fun _ t => QJ base (cAt [1,1,0,1,0,0,1,1] Qm) ((Ql QD (cAt [1,1,0,1,0,0] Qm) (Qt (fun t H d again => QJ base (cAt [1,1,0,1,0,0] Qm) (Ql QD (cAt [1,1,0,1,0,0] Qm) again ((Qe 0 ((Qg (fun _ t => QJ base (cAt [1,1,1] Qm) (QI base) (Qf QD (cAt [1,1,1] Qm) t)) (QI base)))))) t H d)) ((Qe 0 ((Qg (fun _ t => QJ base (cAt [1,1,1] Qm) (QI base) (Qf QD (cAt [1,1,1] Qm) t)) (QI base))))))) (Qf QD (cAt [1,1,0,1,0,0,1,1] Qm) t)) ((Ql QD (cAt [1,1,0,1,0,0] Qm) (Qt (fun t H d again => QJ base (cAt [1,1,0,1,0,0] Qm) (Ql QD (cAt [1,1,0,1,0,0] Qm) again ((Qe 0 ((Qg (fun _ t => QJ base (cAt [1,1,1] Qm) (QI base) (Qf QD (cAt [1,1,1] Qm) t)) (QI base)))))) t H d)) ((Qe 0 ((Qg (fun _ t => QJ base (cAt [1,1,1] Qm) (QI base) (Qf QD (cAt [1,1,1] Qm) t)) (QI base))))))))))) (Qf QD (cAt [1,1,0,1,0,0,1,0,0,1,0,1,1] Qm) t)) ((Qe 1 ((Qg (fun _ t => QJ base (cAt [1,1,0,1,0,0,1,1] Qm) ((Ql QD (cAt [1,1,0,1,0,0] Qm) (Qt (fun t H d again => QJ base (cAt [1,1,0,1,0,0] Qm) (Ql QD (cAt [1,1,0,1,0,0] Qm) again ((Qe 0 ((Qg (fun _ t => QJ base (cAt [1,1,1] Qm) (QI base) (Qf QD (cAt [1,1,1] Qm) t)) (QI base)))))) t H d)) ((Qe 0 ((Qg (fun _ t => QJ base (cAt [1,1,1] Qm) (QI base) (Qf QD (cAt [1,1,1] Qm) t)) (QI base))))))) (Qf QD (cAt [1,1,0,1,0,0,1,1] Qm) t)) ((Ql QD (cAt [1,1,0,1,0,0] Qm) (Qt (fun t H d again => QJ base (cAt [1,1,0,1,0,0] Qm) (Ql QD (cAt [1,1,0,1,0,0] Qm) again ((Qe 0 ((Qg (fun _ t => QJ base (cAt [1,1,1] Qm) (QI base) (Qf QD (cAt [1,1,1] Qm) t)) (QI base)))))) t H d)) ((Qe 0 ((Qg (fun _ t => QJ base (cAt [1,1,1] Qm) (QI base) (Qf QD (cAt [1,1,1] Qm) t)) (QI base))))))))))))))) _ H []).trans (by kernel_rfl)
theorem AL (base : Nat) (t0 t1 t5 : V) (H : Qa) : F3 base t0 t1 t5 H =
 bnd (QM t0) fun v2 =>
 bnd (Qb .lss 6 t5 v2) fun v3 =>
 cnd v3
 (bnd (Qx 6 t0 t5) fun v4 =>
 bnd (Qd true 6 H v4) fun v5 =>
 bnd (Qb .sub 6 t5 (.int .i64 1)) fun v6 =>
 bnd (Qx 6 t0 v6) fun v7 =>
 bnd (Qd true 6 H v7) fun v8 =>
 bcall (J2 E t1 [v5,v8] H) (fun v9 h10 =>
 cnd v9
 (bnd (JP 6 t0 (some t5) none none) fun v11 =>
 NN base t0 t1 t5 v11 (.int .i64 1) h10)
 (bnd (Qb .add 6 t5 (.int .i64 1)) fun v33 =>
 F3 base t0 t1 v33 h10))
 (fun v9 h10 => pn false base v9 h10))
 (rt false base t0 H) := (Za (cAt [1,1,0,1,0,0] Qm) ((Qe 0 ((Qg (fun _ t => QJ base (cAt [1,1,1] Qm) (QI base) (Qf QD (cAt [1,1,1] Qm) t)) (QI base))))) _ H []).trans (by kernel_rfl)
def X4 (base : Nat) (t0 t1 : V) (H : Qa) : Option (Out × Qa) := QJ base Qm (QI base) [(0,t0),(1,t1)] H []
theorem QgB (base : Nat) (t0 t1 : V) (H : Qa) : X4 base t0 t1 H =
 bnd (QM t0) fun v0 =>
 bnd (Qb .lss 6 v0 (.int .i64 2)) fun v1 =>
 cnd v1
 (rt false base t0 H)
 (F3 base t0 t1 (.int .i64 1) H) := by kernel_rfl
theorem Qd8 (t0 t1 : V) (H : Qa) : E GE [t0,t1] H = X4 H.length t0 t1 H := (QR Tryd.func65 (by kernel_rfl) (by kernel_rfl) (by kernel_rfl)).trans (by kernel_rfl)
def QlK : Code := QO Tryd.f66
def Qnj : Ks := []
def QlU (base : Nat) : KC (Out × Qa) := QN Tryd.prog D false base 10 Tryd.f66.results.toList
def Qp5 (base : Nat) (c : Code) (k : KC (Out × Qa)) (t : Ts) (H : Qa) (d : Ds) : Option (Out × Qa) := xC Tryd.prog base false Qnj E 10 c k t H d
def QeH (base : Nat) (t0 t1 : V) (H : Qa) : Option (Out × Qa) := Qp5 base QlK (QlU base) [(0,t0),(1,t1)] H []
theorem Qi5 (base : Nat) (t0 t1 : V) (H : Qa) : QeH base t0 t1 H =
 beff (QB H t0) fun v0 h1 =>
 beff (QB h1 t1) fun v2 h3 =>
 bnd (Qd true 6 h3 v0) fun v4 =>
 bcall (E NB [v4] h3) (fun v5 h6 =>
 bnd (bnd (Qd true 6 h6 v2) fun v7 => sch (sam (Qd true 6 h3 v2) v7) (
 some v7)) fun v7 =>
 bcall (E NB [v7] h6) (fun v8 h9 =>
 bnd (Qb .eql 6 v5 v8) fun v10 =>
 rt false base v10 h9)
 (fun v8 h9 => pn false base v8 h9))
 (fun v5 h6 => sch (tlb (Qd true 6 h3 v2) fun v11 => true) (pn false base v5 h6)) := by kernel_rfl
theorem QnC (t0 t1 : V) (H : Qa) : E BV [t0,t1] H = QeH H.length t0 t1 H := (QR Tryd.func66 (by kernel_rfl) (by kernel_rfl) (by kernel_rfl)).trans (by kernel_rfl)
def Qka : Code := QO Tryd.f67
def Qmt : Ks := []
def QjB (base : Nat) : KC (Out × Qa) := QN Tryd.prog D false base 8 Tryd.f67.results.toList
def Qmb (base : Nat) (c : Code) (k : KC (Out × Qa)) (t : Ts) (H : Qa) (d : Ds) : Option (Out × Qa) := xC Tryd.prog base false Qmt E 8 c k t H d
def QcJ (base : Nat) (t0 t1 : V) (H : Qa) : Option (Out × Qa) := Qmb base Qka (QjB base) [(0,t0),(1,t1)] H []
theorem QjQ (base : Nat) (t0 t1 : V) (H : Qa) : QcJ base t0 t1 H =
 beff (QB H t0) fun v0 h1 =>
 bnd (Qp v0 0) fun v2 =>
 bnd (Qd false 1 h1 v2) fun v3 =>
 bnd (Qd false 1 h1 t1) fun v4 =>
 bnd (Qb .eql 6 v3 v4) fun v5 =>
 rt false base v5 h1 := by kernel_rfl
theorem Qnq (t0 t1 : V) (H : Qa) : E Jd [t0,t1] H = QcJ H.length t0 t1 H := (QR Tryd.func67 (by kernel_rfl) (by kernel_rfl) (by kernel_rfl)).trans (by kernel_rfl)
def YU : Code := QO Tryd.f68
def Vp : Ks := [(3,[1,3,4]),(4,[1,3,4])]
def Wt (base : Nat) : KC (Out × Qa) := QN Tryd.prog D false base 42 Tryd.f68.results.toList
def VH (base : Nat) (c : Code) (k : KC (Out × Qa)) (t : Ts) (H : Qa) (d : Ds) : Option (Out × Qa) := xC Tryd.prog base false Vp E 42 c k t H d
def MA (base : Nat) (t1 t3 t4 : V) (H : Qa) : Option (Out × Qa) :=
Qt (fun t H d again => VH base (cAt [1,1,0,1,0,0] YU) (Ql Vp (cAt [1,1,0,1,0,0] YU) again ((Qe 0 ((Qg (fun _ t => VH base (cAt [1,1,1] YU) (Wt base) (Qf Vp (cAt [1,1,1] YU) t)) (Wt base)))))) t H d) [(1,t1),(3,t3),(4,t4)] H []
def NG (base : Nat) (t1 t3 t4 : V) (H : Qa) : Option (Out × Qa) :=
VH base (cAt [1,1,0,1,0,0,1,1] YU) ((Ql Vp (cAt [1,1,0,1,0,0] YU) (Qt (fun t H d again => VH base (cAt [1,1,0,1,0,0] YU) (Ql Vp (cAt [1,1,0,1,0,0] YU) again ((Qe 0 ((Qg (fun _ t => VH base (cAt [1,1,1] YU) (Wt base) (Qf Vp (cAt [1,1,1] YU) t)) (Wt base)))))) t H d)) ((Qe 0 ((Qg (fun _ t => VH base (cAt [1,1,1] YU) (Wt base) (Qf Vp (cAt [1,1,1] YU) t)) (Wt base))))))) [(1,t1),(3,t3),(4,t4)] H []
theorem QmZ (base : Nat) (t1 t3 t4 : V) (H : Qa) : NG base t1 t3 t4 H =
 bnd (Qb .add 6 t4 (.int .i64 1)) fun v7 =>
 MA base t1 t3 v7 H := by kernel_rfl
theorem QpX (base : Nat) (t1 t3 t4 : V) (H : Qa) : MA base t1 t3 t4 H =
 bnd (Qb .lss 6 t4 (.int .i64 256)) fun v2 =>
 cnd v2
 (bnd (Qd true 4 H t1) fun v3 =>
 bcall (E W9 [v3,t4] H) (fun v4 h5 =>
 bnd (oUn .not v4) fun v6 =>
 cnd v6
 (NG base t1 t3 t4 h5)
 (bnd (QM t3) fun v8 =>
 bnd (Qb .gtr 6 v8 (.int .i64 0)) fun v9 =>
 bnd (gua v9 true (QK t3) (some (.tup []))) fun v10 =>
 bnd (gua v9 true (QK t3) (some (.tup []))) fun v11 =>
 bnd (gua v9 true (QM v11) (some (.tup []))) fun v12 =>
 bnd (gua v9 true (Qb .sub 6 v12 (.int .i64 1)) (some (.tup []))) fun v13 =>
 bnd (gua v9 true (Qx 2 v10 v13) (some (.tup []))) fun v14 =>
 bnd (gua v9 true (Qp v14 1) (some (.tup []))) fun v15 =>
 bnd (gua v9 true (Qd false 1 h5 v15) (some (.tup []))) fun v16 =>
 bnd (gua v9 true (QK t4) (some (.tup []))) fun v17 =>
 bnd (gua v9 true (Qb .sub 6 v17 (.int .i64 1)) (some (.tup []))) fun v18 =>
 bnd (gua v9 true (Qb .eql 6 v16 v18) (some (.tup []))) fun v19 =>
 bnd (QX v9 v19 (.bool false)) fun v20 =>
 cnd v20
 (bnd (QM t3) fun v21 =>
 bnd (Qb .sub 6 v21 (.int .i64 1)) fun v22 =>
 bnd (Qx 2 t3 v22) fun v23 =>
 bnd (Qp v23 1) fun v24 =>
 beff (Qs base 1 h5 v24 t4) fun v25 h26 =>
 NG base t1 t3 t4 h26)
 (bnd (Zj [(.int .i64 0),(.int .i64 0)] [(0,1),(1,1)] [(0,t4),(1,t4)]) fun v27 =>
 bnd (Zr 2 1 (.agg [(.int .i64 0),(.int .i64 0)]) [(0,v27)]) fun v28 =>
 beff (Z6 base 2 16 true t3 v28 h5) fun v29 h30 =>
 NG base t1 v29 t4 h30)))
 (fun v4 h5 => pn false base v4 h5))
 (rt false base t3 H) := (Za (cAt [1,1,0,1,0,0] YU) ((Qe 0 ((Qg (fun _ t => VH base (cAt [1,1,1] YU) (Wt base) (Qf Vp (cAt [1,1,1] YU) t)) (Wt base))))) _ H []).trans (by kernel_rfl)
def TZ (base : Nat) (t0 : V) (H : Qa) : Option (Out × Qa) := VH base YU (Wt base) [(0,t0)] H []
theorem QqQ (base : Nat) (t0 : V) (H : Qa) : TZ base t0 H =
 beff (QB H t0) fun v0 h1 =>
 MA base v0 .nils (.int .i64 0) h1 := by kernel_rfl
theorem QkZ (t0 : V) (H : Qa) : E Ce [t0] H = TZ H.length t0 H := (QR Tryd.func68 (by kernel_rfl) (by kernel_rfl) (by kernel_rfl)).trans (by kernel_rfl)
def QkP : Code := QO Tryd.f69
def Ql4 : Ks := []
def Qjr (base : Nat) : KC (Out × Qa) := QN Tryd.prog D false base 18 Tryd.f69.results.toList
def Qow (base : Nat) (c : Code) (k : KC (Out × Qa)) (t : Ts) (H : Qa) (d : Ds) : Option (Out × Qa) := xC Tryd.prog base false Ql4 E 18 c k t H d
def Qa5 (base : Nat) (t0 : V) (H : Qa) : Option (Out × Qa) := Qow base QkP (Qjr base) [(0,t0)] H []
theorem Qj7 (base : Nat) (t0 : V) (H : Qa) : Qa5 base t0 H =
 bnd (Qb .rem 6 t0 (.int .i64 10)) fun v0 =>
 bnd (Qb .add 6 (.int .i64 48) v0) fun v1 =>
 bnd (Yc .u8 v1) fun v2 =>
 bnd (Zr 1 1 (.int .u8 0) [(0,v2)]) fun v3 =>
 bnd (JO H v3) fun v4 =>
 bnd (Qb .lss 6 t0 (.int .i64 10)) fun v5 =>
 cnd v5
 (rt false base v4 H)
 (bnd (Qb .quo 6 t0 (.int .i64 10)) fun v6 =>
 bcall (E BG [v6] H) (fun v7 h8 =>
 bnd (Qb .add 6 v7 v4) fun v9 =>
 rt false base v9 h8)
 (fun v7 h8 => pn false base v7 h8)) := by kernel_rfl
theorem Qnv (t0 : V) (H : Qa) : E BG [t0] H = Qa5 H.length t0 H := (QR Tryd.func69 (by kernel_rfl) (by kernel_rfl) (by kernel_rfl)).trans (by kernel_rfl)
def ZA : Code := QO Tryd.f71
def YB : Ks := [(2,[0,1,2,6,7,8]),(7,[0,1,2,6]),(9,[0,1,2,6,7,8]),(16,[0,1,2,6])]
def YL (base : Nat) : KC (Out × Qa) := QN Tryd.prog D false base 63 Tryd.f71.results.toList
def Jt (base : Nat) (c : Code) (k : KC (Out × Qa)) (t : Ts) (H : Qa) (d : Ds) : Option (Out × Qa) := xC Tryd.prog base true YB E 63 c k t H d
def Pi (base : Nat) (t0 t1 t2 t6 t7 t8 : V) (H : Qa) : Option (Out × Qa) :=
Qt (fun t H d again => Jt base (cAt [1,1,0,0,0] ZA) (Ql YB (cAt [1,1,0,0,0] ZA) again ((Qe 0 ((Qg (fun _ t => Jt base (cAt [1,1,1] ZA) (YL base) (Qf YB (cAt [1,1,1] ZA) t)) (YL base)))))) t H d) [(0,t0),(1,t1),(2,t2),(6,t6),(7,t7),(8,t8)] H []
def UC (base : Nat) (t0 t1 t2 t6 : V) (H : Qa) : Option (Out × Qa) :=
Qt (fun t H d again => Jt base (cAt [1,1,1,1,0,0] ZA) (Ql YB (cAt [1,1,1,1,0,0] ZA) again ((Qe 2 (YL base)))) t H d) [(0,t0),(1,t1),(2,t2),(6,t6)] H []
def FN (base : Nat) (t0 t1 t2 t6 t7 t8 : V) (H : Qa) : Option (Out × Qa) :=
Qt (fun t H d again => Jt base (cAt [1,1,1,1,0,0,1,0,1,0,0,0] ZA) (Ql YB (cAt [1,1,1,1,0,0,1,0,1,0,0,0] ZA) again ((Qe 4 ((Qg (fun _ t => Jt base (cAt [1,1,1,1,0,0,1,0,1,1] ZA) ((Qe 3 ((Ql YB (cAt [1,1,1,1,0,0] ZA) (Qt (fun t H d again => Jt base (cAt [1,1,1,1,0,0] ZA) (Ql YB (cAt [1,1,1,1,0,0] ZA) again ((Qe 2 (YL base)))) t H d)) ((Qe 2 (YL base))))))) (Qf YB (cAt [1,1,1,1,0,0,1,0,1,1] ZA) t)) ((Qe 3 ((Ql YB (cAt [1,1,1,1,0,0] ZA) (Qt (fun t H d again => Jt base (cAt [1,1,1,1,0,0] ZA) (Ql YB (cAt [1,1,1,1,0,0] ZA) again ((Qe 2 (YL base)))) t H d)) ((Qe 2 (YL base)))))))))))) t H d) [(0,t0),(1,t1),(2,t2),(6,t6),(7,t7),(8,t8)] H []
def F7 (base : Nat) (t0 t1 t2 t6 : V) (H : Qa) : Option (Out × Qa) :=
Jt base (cAt [1,1,1,1,0,0,1,0,1,1,1] ZA) ((Qe 3 ((Ql YB (cAt [1,1,1,1,0,0] ZA) (Qt (fun t H d again => Jt base (cAt [1,1,1,1,0,0] ZA) (Ql YB (cAt [1,1,1,1,0,0] ZA) again ((Qe 2 (YL base)))) t H d)) ((Qe 2 (YL base))))))) [(0,t0),(1,t1),(2,t2),(6,t6)] H []
theorem XB (base : Nat) (t0 t1 t2 t6 : V) (H : Qa) : F7 base t0 t1 t2 t6 H =
 bnd (Qb .mul 6 t6 (.int .i64 2)) fun v18 =>
 UC base t0 t1 t2 v18 H := by kernel_rfl
theorem Gv (base : Nat) (t0 t1 t2 t6 t7 t8 : V) (H : Qa) : FN base t0 t1 t2 t6 t7 t8 H =
 bnd (Qb .leq 6 t8 t1) fun v8 =>
 cnd v8
 (bnd (Qb .add 6 t7 t6) fun v9 =>
 bcall (E RG [t0,t7,v9,t8,t2] H) (fun v10 h11 =>
 bnd (Qb .mul 6 (.int .i64 2) t6) fun v12 =>
 bnd (Qb .add 6 t8 v12) fun v13 =>
 FN base t0 t1 t2 t6 t8 v13 h11)
 (fun v10 h11 => pn false base v10 h11))
 (bnd (Qb .add 6 t7 t6) fun v14 =>
 bnd (Qb .lss 6 v14 t1) fun v15 =>
 cnd v15
 (bcall (E RG [t0,t7,v14,t1,t2] H) (fun v16 h17 =>
 F7 base t0 t1 t2 t6 h17)
 (fun v16 h17 => pn false base v16 h17))
 (F7 base t0 t1 t2 t6 H)) := (Za (cAt [1,1,1,1,0,0,1,0,1,0,0,0] ZA) ((Qe 4 ((Qg (fun _ t => Jt base (cAt [1,1,1,1,0,0,1,0,1,1] ZA) ((Qe 3 ((Ql YB (cAt [1,1,1,1,0,0] ZA) (Qt (fun t H d again => Jt base (cAt [1,1,1,1,0,0] ZA) (Ql YB (cAt [1,1,1,1,0,0] ZA) again ((Qe 2 (YL base)))) t H d)) ((Qe 2 (YL base))))))) (Qf YB (cAt [1,1,1,1,0,0,1,0,1,1] ZA) t)) ((Qe 3 ((Ql YB (cAt [1,1,1,1,0,0] ZA) (Qt (fun t H d again => Jt base (cAt [1,1,1,1,0,0] ZA) (Ql YB (cAt [1,1,1,1,0,0] ZA) again ((Qe 2 (YL base)))) t H d)) ((Qe 2 (YL base))))))))))) _ H []).trans (by kernel_rfl)
theorem Pn (base : Nat) (t0 t1 t2 t6 : V) (H : Qa) : UC base t0 t1 t2 t6 H =
 bnd (Qb .lss 6 t6 t1) fun v6 =>
 cnd v6
 (bnd (Qb .mul 6 (.int .i64 2) t6) fun v7 =>
 FN base t0 t1 t2 t6 (.int .i64 0) v7 H)
 (rt false base (.tup []) H) := (Za (cAt [1,1,1,1,0,0] ZA) ((Qe 2 (YL base))) _ H []).trans (by kernel_rfl)
theorem P5 (base : Nat) (t0 t1 t2 t6 t7 t8 : V) (H : Qa) : Pi base t0 t1 t2 t6 t7 t8 H =
 bnd (Qb .leq 6 t8 t1) fun v0 =>
 cnd v0
 (bcall (E NU [t0,t7,t8,t2] H) (fun v1 h2 =>
 bnd (Qb .add 6 t8 t6) fun v3 =>
 Pi base t0 t1 t2 t6 t8 v3 h2)
 (fun v1 h2 => pn false base v1 h2))
 (bcall (E NU [t0,t7,t1,t2] H) (fun v4 h5 =>
 UC base t0 t1 t2 t6 h5)
 (fun v4 h5 => pn false base v4 h5)) := (Za (cAt [1,1,0,0,0] ZA) ((Qe 0 ((Qg (fun _ t => Jt base (cAt [1,1,1] ZA) (YL base) (Qf YB (cAt [1,1,1] ZA) t)) (YL base))))) _ H []).trans (by kernel_rfl)
def XN (base : Nat) (t0 t1 t2 : V) (H : Qa) : Option (Out × Qa) := Jt base ZA (YL base) [(0,t0),(1,t1),(2,t2)] H []
theorem Qd1 (base : Nat) (t0 t1 t2 : V) (H : Qa) : XN base t0 t1 t2 H =
 Pi base t0 t1 t2 (.int .i64 20) (.int .i64 0) (.int .i64 20) H := by kernel_rfl
theorem QfQ (t0 t1 t2 : V) (H : Qa) : E QdT [t0,t1,t2] H = XN H.length t0 t1 t2 H := (QR Tryd.func71 (by kernel_rfl) (by kernel_rfl) (by kernel_rfl)).trans (by kernel_rfl)
def Ya : Code := QO Tryd.f76
def JM : Ks := [(1,[0,1,2,3,8]),(4,[0,1,2,3,8,9])]
def J4 (base : Nat) : KC (Out × Qa) := QN Tryd.prog D false base 53 Tryd.f76.results.toList
def K0 (base : Nat) (c : Code) (k : KC (Out × Qa)) (t : Ts) (H : Qa) (d : Ds) : Option (Out × Qa) := xC Tryd.prog base true JM E 53 c k t H d
def ND (base : Nat) (t0 t1 t2 t3 t8 : V) (H : Qa) : Option (Out × Qa) :=
Qt (fun t H d again => K0 base (cAt [1,0,0] Ya) (Ql JM (cAt [1,0,0] Ya) again ((Qe 0 (J4 base)))) t H d) [(0,t0),(1,t1),(2,t2),(3,t3),(8,t8)] H []
def PD (base : Nat) (t0 t1 t2 t3 t8 t9 : V) (H : Qa) : Option (Out × Qa) :=
Qt (fun t H d again => K0 base (cAt [1,0,0,1,0,0,1,0,0] Ya) (Ql JM (cAt [1,0,0,1,0,0,1,0,0] Ya) again ((Qe 2 ((Qe 1 ((Qg (fun _ t => K0 base (cAt [1,0,0,1,1] Ya) ((Ql JM (cAt [1,0,0] Ya) (Qt (fun t H d again => K0 base (cAt [1,0,0] Ya) (Ql JM (cAt [1,0,0] Ya) again ((Qe 0 (J4 base)))) t H d)) ((Qe 0 (J4 base))))) (Qf JM (cAt [1,0,0,1,1] Ya) t)) ((Ql JM (cAt [1,0,0] Ya) (Qt (fun t H d again => K0 base (cAt [1,0,0] Ya) (Ql JM (cAt [1,0,0] Ya) again ((Qe 0 (J4 base)))) t H d)) ((Qe 0 (J4 base)))))))))))) t H d) [(0,t0),(1,t1),(2,t2),(3,t3),(8,t8),(9,t9)] H []
theorem Az (base : Nat) (t0 t1 t2 t3 t8 t9 : V) (H : Qa) : PD base t0 t1 t2 t3 t8 t9 H =
 bnd (Qb .gtr 6 t9 t1) fun v2 =>
 bnd (gua v2 true (QK t3) (some (.tup []))) fun v3 =>
 bnd (gua v2 true (QK t0) (some (.tup []))) fun v4 =>
 bnd (gua v2 true (QK t9) (some (.tup []))) fun v5 =>
 bnd (gua v2 true (Qx 6 v4 v5) (some (.tup []))) fun v6 =>
 bnd (gua v2 true (Qd true 6 H v6) (some (.tup []))) fun v7 =>
 bnd (gua v2 true (QK t0) (some (.tup []))) fun v8 =>
 bnd (gua v2 true (QK t9) (some (.tup []))) fun v9 =>
 bnd (gua v2 true (Qb .sub 6 v9 (.int .i64 1)) (some (.tup []))) fun v10 =>
 bnd (gua v2 true (Qx 6 v8 v10) (some (.tup []))) fun v11 =>
 bnd (gua v2 true (Qd true 6 H v11) (some (.tup []))) fun v12 =>
 bcall (gua v2 true (J2 E v3 [v7,v12] H) (some (.ret (.tup []),H))) (fun v13 h14 =>
 bnd (gua v2 true (Qb .lss 6 v13 (.int .i64 0)) (some (.tup []))) fun v15 =>
 bnd (QX v2 v15 (.bool false)) fun v16 =>
 cnd v16
 (bnd (Qb .sub 6 t9 (.int .i64 1)) fun v17 =>
 bnd (Qb .sub 6 t9 (.int .i64 1)) fun v18 =>
 bnd (Qx 6 t0 v18) fun v19 =>
 bnd (Qd true 6 h14 v19) fun v20 =>
 bnd (Qx 6 t0 t9) fun v21 =>
 bnd (Qd true 6 h14 v21) fun v22 =>
 bnd (Qx 6 t0 t9) fun v23 =>
 beff (Qs base 6 h14 v23 v20) fun v24 h25 =>
 bnd (Qx 6 t0 v17) fun v26 =>
 beff (Qs base 6 h25 v26 v22) fun v27 h28 =>
 bnd (Qb .sub 6 t9 (.int .i64 1)) fun v29 =>
 PD base t0 t1 t2 t3 t8 v29 h28)
 (bnd (Qb .add 6 t8 (.int .i64 1)) fun v30 =>
 ND base t0 t1 t2 t3 v30 h14))
 (fun v13 h14 => pn false base v13 h14) := (Za (cAt [1,0,0,1,0,0,1,0,0] Ya) ((Qe 2 ((Qe 1 ((Qg (fun _ t => K0 base (cAt [1,0,0,1,1] Ya) ((Ql JM (cAt [1,0,0] Ya) (Qt (fun t H d again => K0 base (cAt [1,0,0] Ya) (Ql JM (cAt [1,0,0] Ya) again ((Qe 0 (J4 base)))) t H d)) ((Qe 0 (J4 base))))) (Qf JM (cAt [1,0,0,1,1] Ya) t)) ((Ql JM (cAt [1,0,0] Ya) (Qt (fun t H d again => K0 base (cAt [1,0,0] Ya) (Ql JM (cAt [1,0,0] Ya) again ((Qe 0 (J4 base)))) t H d)) ((Qe 0 (J4 base))))))))))) _ H []).trans (by kernel_rfl)
theorem GW (base : Nat) (t0 t1 t2 t3 t8 : V) (H : Qa) : ND base t0 t1 t2 t3 t8 H =
 bnd (Qb .lss 6 t8 t2) fun v1 =>
 cnd v1
 (PD base t0 t1 t2 t3 t8 t8 H)
 (rt false base (.tup []) H) := (Za (cAt [1,0,0] Ya) ((Qe 0 (J4 base))) _ H []).trans (by kernel_rfl)
def QaS (base : Nat) (t0 t1 t2 t3 : V) (H : Qa) : Option (Out × Qa) := K0 base Ya (J4 base) [(0,t0),(1,t1),(2,t2),(3,t3)] H []
theorem Ch (base : Nat) (t0 t1 t2 t3 : V) (H : Qa) : QaS base t0 t1 t2 t3 H =
 bnd (Qb .add 6 t1 (.int .i64 1)) fun v0 =>
 ND base t0 t1 t2 t3 v0 H := by kernel_rfl
theorem Ae (t0 t1 t2 t3 : V) (H : Qa) : E NU [t0,t1,t2,t3] H = QaS H.length t0 t1 t2 t3 H := (QR Tryd.func76 (by kernel_rfl) (by kernel_rfl) (by kernel_rfl)).trans (by kernel_rfl)
end
end Go.Proofs.YtdnmpaielmfiiaaDoor
end
