/- Fn4: a part of the proof that each law of this seat answers true at every input. No condition. -/
import Derived.Test.YtdnmpaielmfiiaaDoorHint
import Derived.KernelRfl
set_option linter.unusedVariables false
set_option linter.unusedSimpArgs false
set_option maxRecDepth 20000
section
namespace Go.Proofs.YtdnmpaielmfiiaaDoor
open Go Go.Ev
noncomputable section
def Qm : Code := QO Tryd.f65
def QC : Ks := [(4,[0,1,5]),(9,[0,1,5,6,7]),(10,[0,1,5,6,7])]
def QH (O : Nat) : KC (Out × Qa) := QP Tryd.prog D false O 66 Tryd.f65.results.toList
def QJ (O : Nat) (c : Code) (k : KC (Out × Qa)) (t : Ts) (H : Qa) (d : Ds) : Option (Out × Qa) := xC Tryd.prog O true QC E 66 c k t H d
def Ej (O : Nat) (t0 t1 t5 : V) (H : Qa) : Option (Out × Qa) :=
Qt (fun t H d again => QJ O (cAt [1,1,0,1,0,0] Qm) (Ql QC (cAt [1,1,0,1,0,0] Qm) again ((Qe 0 ((Qg (fun _ t => QJ O (cAt [1,1,1] Qm) (QH O) (Qf QC (cAt [1,1,1] Qm) t)) (QH O)))))) t H d) [(0,t0),(1,t1),(5,t5)] H []
def RO (O : Nat) (t0 t1 t5 t6 t7 : V) (H : Qa) : Option (Out × Qa) :=
Qt (fun t H d again => QJ O (cAt [1,1,0,1,0,0,1,0,0,1,0,1,0,1,0,0] Qm) (Ql QC (cAt [1,1,0,1,0,0,1,0,0,1,0,1,0,1,0,0] Qm) again ((Qe 2 ((Qg (fun _ t => QJ O (cAt [1,1,0,1,0,0,1,0,0,1,0,1,1] Qm) ((Qe 1 ((Qg (fun _ t => QJ O (cAt [1,1,0,1,0,0,1,1] Qm) ((Ql QC (cAt [1,1,0,1,0,0] Qm) (Qt (fun t H d again => QJ O (cAt [1,1,0,1,0,0] Qm) (Ql QC (cAt [1,1,0,1,0,0] Qm) again ((Qe 0 ((Qg (fun _ t => QJ O (cAt [1,1,1] Qm) (QH O) (Qf QC (cAt [1,1,1] Qm) t)) (QH O)))))) t H d)) ((Qe 0 ((Qg (fun _ t => QJ O (cAt [1,1,1] Qm) (QH O) (Qf QC (cAt [1,1,1] Qm) t)) (QH O))))))) (Qf QC (cAt [1,1,0,1,0,0,1,1] Qm) t)) ((Ql QC (cAt [1,1,0,1,0,0] Qm) (Qt (fun t H d again => QJ O (cAt [1,1,0,1,0,0] Qm) (Ql QC (cAt [1,1,0,1,0,0] Qm) again ((Qe 0 ((Qg (fun _ t => QJ O (cAt [1,1,1] Qm) (QH O) (Qf QC (cAt [1,1,1] Qm) t)) (QH O)))))) t H d)) ((Qe 0 ((Qg (fun _ t => QJ O (cAt [1,1,1] Qm) (QH O) (Qf QC (cAt [1,1,1] Qm) t)) (QH O))))))))))) (Qf QC (cAt [1,1,0,1,0,0,1,0,0,1,0,1,1] Qm) t)) ((Qe 1 ((Qg (fun _ t => QJ O (cAt [1,1,0,1,0,0,1,1] Qm) ((Ql QC (cAt [1,1,0,1,0,0] Qm) (Qt (fun t H d again => QJ O (cAt [1,1,0,1,0,0] Qm) (Ql QC (cAt [1,1,0,1,0,0] Qm) again ((Qe 0 ((Qg (fun _ t => QJ O (cAt [1,1,1] Qm) (QH O) (Qf QC (cAt [1,1,1] Qm) t)) (QH O)))))) t H d)) ((Qe 0 ((Qg (fun _ t => QJ O (cAt [1,1,1] Qm) (QH O) (Qf QC (cAt [1,1,1] Qm) t)) (QH O))))))) (Qf QC (cAt [1,1,0,1,0,0,1,1] Qm) t)) ((Ql QC (cAt [1,1,0,1,0,0] Qm) (Qt (fun t H d again => QJ O (cAt [1,1,0,1,0,0] Qm) (Ql QC (cAt [1,1,0,1,0,0] Qm) again ((Qe 0 ((Qg (fun _ t => QJ O (cAt [1,1,1] Qm) (QH O) (Qf QC (cAt [1,1,1] Qm) t)) (QH O)))))) t H d)) ((Qe 0 ((Qg (fun _ t => QJ O (cAt [1,1,1] Qm) (QH O) (Qf QC (cAt [1,1,1] Qm) t)) (QH O)))))))))))))))) t H d) [(0,t0),(1,t1),(5,t5),(6,t6),(7,t7)] H []
def Pi (O : Nat) (t0 t1 t5 t6 t7 : V) (H : Qa) : Option (Out × Qa) :=
QJ O (cAt [1,1,0,1,0,0,1,0,0,1,0,1,0,1,0,0,1,1] Qm) ((Ql QC (cAt [1,1,0,1,0,0,1,0,0,1,0,1,0,1,0,0] Qm) (Qt (fun t H d again => QJ O (cAt [1,1,0,1,0,0,1,0,0,1,0,1,0,1,0,0] Qm) (Ql QC (cAt [1,1,0,1,0,0,1,0,0,1,0,1,0,1,0,0] Qm) again ((Qe 2 ((Qg (fun _ t => QJ O (cAt [1,1,0,1,0,0,1,0,0,1,0,1,1] Qm) ((Qe 1 ((Qg (fun _ t => QJ O (cAt [1,1,0,1,0,0,1,1] Qm) ((Ql QC (cAt [1,1,0,1,0,0] Qm) (Qt (fun t H d again => QJ O (cAt [1,1,0,1,0,0] Qm) (Ql QC (cAt [1,1,0,1,0,0] Qm) again ((Qe 0 ((Qg (fun _ t => QJ O (cAt [1,1,1] Qm) (QH O) (Qf QC (cAt [1,1,1] Qm) t)) (QH O)))))) t H d)) ((Qe 0 ((Qg (fun _ t => QJ O (cAt [1,1,1] Qm) (QH O) (Qf QC (cAt [1,1,1] Qm) t)) (QH O))))))) (Qf QC (cAt [1,1,0,1,0,0,1,1] Qm) t)) ((Ql QC (cAt [1,1,0,1,0,0] Qm) (Qt (fun t H d again => QJ O (cAt [1,1,0,1,0,0] Qm) (Ql QC (cAt [1,1,0,1,0,0] Qm) again ((Qe 0 ((Qg (fun _ t => QJ O (cAt [1,1,1] Qm) (QH O) (Qf QC (cAt [1,1,1] Qm) t)) (QH O)))))) t H d)) ((Qe 0 ((Qg (fun _ t => QJ O (cAt [1,1,1] Qm) (QH O) (Qf QC (cAt [1,1,1] Qm) t)) (QH O))))))))))) (Qf QC (cAt [1,1,0,1,0,0,1,0,0,1,0,1,1] Qm) t)) ((Qe 1 ((Qg (fun _ t => QJ O (cAt [1,1,0,1,0,0,1,1] Qm) ((Ql QC (cAt [1,1,0,1,0,0] Qm) (Qt (fun t H d again => QJ O (cAt [1,1,0,1,0,0] Qm) (Ql QC (cAt [1,1,0,1,0,0] Qm) again ((Qe 0 ((Qg (fun _ t => QJ O (cAt [1,1,1] Qm) (QH O) (Qf QC (cAt [1,1,1] Qm) t)) (QH O)))))) t H d)) ((Qe 0 ((Qg (fun _ t => QJ O (cAt [1,1,1] Qm) (QH O) (Qf QC (cAt [1,1,1] Qm) t)) (QH O))))))) (Qf QC (cAt [1,1,0,1,0,0,1,1] Qm) t)) ((Ql QC (cAt [1,1,0,1,0,0] Qm) (Qt (fun t H d again => QJ O (cAt [1,1,0,1,0,0] Qm) (Ql QC (cAt [1,1,0,1,0,0] Qm) again ((Qe 0 ((Qg (fun _ t => QJ O (cAt [1,1,1] Qm) (QH O) (Qf QC (cAt [1,1,1] Qm) t)) (QH O)))))) t H d)) ((Qe 0 ((Qg (fun _ t => QJ O (cAt [1,1,1] Qm) (QH O) (Qf QC (cAt [1,1,1] Qm) t)) (QH O)))))))))))))))) t H d)) ((Qe 2 ((Qg (fun _ t => QJ O (cAt [1,1,0,1,0,0,1,0,0,1,0,1,1] Qm) ((Qe 1 ((Qg (fun _ t => QJ O (cAt [1,1,0,1,0,0,1,1] Qm) ((Ql QC (cAt [1,1,0,1,0,0] Qm) (Qt (fun t H d again => QJ O (cAt [1,1,0,1,0,0] Qm) (Ql QC (cAt [1,1,0,1,0,0] Qm) again ((Qe 0 ((Qg (fun _ t => QJ O (cAt [1,1,1] Qm) (QH O) (Qf QC (cAt [1,1,1] Qm) t)) (QH O)))))) t H d)) ((Qe 0 ((Qg (fun _ t => QJ O (cAt [1,1,1] Qm) (QH O) (Qf QC (cAt [1,1,1] Qm) t)) (QH O))))))) (Qf QC (cAt [1,1,0,1,0,0,1,1] Qm) t)) ((Ql QC (cAt [1,1,0,1,0,0] Qm) (Qt (fun t H d again => QJ O (cAt [1,1,0,1,0,0] Qm) (Ql QC (cAt [1,1,0,1,0,0] Qm) again ((Qe 0 ((Qg (fun _ t => QJ O (cAt [1,1,1] Qm) (QH O) (Qf QC (cAt [1,1,1] Qm) t)) (QH O)))))) t H d)) ((Qe 0 ((Qg (fun _ t => QJ O (cAt [1,1,1] Qm) (QH O) (Qf QC (cAt [1,1,1] Qm) t)) (QH O))))))))))) (Qf QC (cAt [1,1,0,1,0,0,1,0,0,1,0,1,1] Qm) t)) ((Qe 1 ((Qg (fun _ t => QJ O (cAt [1,1,0,1,0,0,1,1] Qm) ((Ql QC (cAt [1,1,0,1,0,0] Qm) (Qt (fun t H d again => QJ O (cAt [1,1,0,1,0,0] Qm) (Ql QC (cAt [1,1,0,1,0,0] Qm) again ((Qe 0 ((Qg (fun _ t => QJ O (cAt [1,1,1] Qm) (QH O) (Qf QC (cAt [1,1,1] Qm) t)) (QH O)))))) t H d)) ((Qe 0 ((Qg (fun _ t => QJ O (cAt [1,1,1] Qm) (QH O) (Qf QC (cAt [1,1,1] Qm) t)) (QH O))))))) (Qf QC (cAt [1,1,0,1,0,0,1,1] Qm) t)) ((Ql QC (cAt [1,1,0,1,0,0] Qm) (Qt (fun t H d again => QJ O (cAt [1,1,0,1,0,0] Qm) (Ql QC (cAt [1,1,0,1,0,0] Qm) again ((Qe 0 ((Qg (fun _ t => QJ O (cAt [1,1,1] Qm) (QH O) (Qf QC (cAt [1,1,1] Qm) t)) (QH O)))))) t H d)) ((Qe 0 ((Qg (fun _ t => QJ O (cAt [1,1,1] Qm) (QH O) (Qf QC (cAt [1,1,1] Qm) t)) (QH O))))))))))))))))) [(0,t0),(1,t1),(5,t5),(6,t6),(7,t7)] H []
theorem Qic (O : Nat) (t0 t1 t5 t6 t7 : V) (H : Qa) : Pi O t0 t1 t5 t6 t7 H =
 bnd (Qb .add 6 t7 (.int .i64 1)) fun v28 =>
 RO O t0 t1 t5 t6 v28 H := by kernel_rfl
theorem Am (O : Nat) (t0 t1 t5 t6 t7 : V) (H : Qa) : RO O t0 t1 t5 t6 t7 H =
 bnd (QM t6) fun v12 =>
 bnd (Qb .lss 6 t7 v12) fun v13 =>
 cnd v13
 (bnd (Qx 6 t6 t7) fun v14 =>
 bnd (Qc true 6 H v14) fun v15 =>
 bnd (Qb .sub 6 t7 (.int .i64 1)) fun v16 =>
 bnd (Qx 6 t6 v16) fun v17 =>
 bnd (Qc true 6 H v17) fun v18 =>
 bcall (J6 E t1 [v15,v18] H) (fun v19 h20 =>
 bnd (oUn .not v19) fun v21 =>
 cnd v21
 (bnd (Qx 6 t6 t7) fun v22 =>
 bnd (Qc true 6 h20 v22) fun v23 =>
 bnd (Qx 6 t0 t5) fun v24 =>
 beff (Qs O 6 h20 v24 v23) fun v25 h26 =>
 bnd (Qb .add 6 t5 (.int .i64 1)) fun v27 =>
 Pi O t0 t1 v27 t6 t7 h26)
 (Pi O t0 t1 t5 t6 t7 h20))
 (fun v19 h20 => pn false O v19 h20))
 (bnd (JO 6 t0 (some t5) none none) fun v29 =>
 beff (N7 O 6 [(.int .i64 0),(.int .u64 0),(.int .u64 0),(.int .u64 0),(.int .u64 0),.nils] v29 H) fun v30 h31 =>
 bnd (JO 6 t0 none (some t5) none) fun v32 =>
 rt false O v32 h31) := (Za (cAt [1,1,0,1,0,0,1,0,0,1,0,1,0,1,0,0] Qm) ((Qe 2 ((Qg (fun _ t => QJ O (cAt [1,1,0,1,0,0,1,0,0,1,0,1,1] Qm) ((Qe 1 ((Qg (fun _ t => QJ O (cAt [1,1,0,1,0,0,1,1] Qm) ((Ql QC (cAt [1,1,0,1,0,0] Qm) (Qt (fun t H d again => QJ O (cAt [1,1,0,1,0,0] Qm) (Ql QC (cAt [1,1,0,1,0,0] Qm) again ((Qe 0 ((Qg (fun _ t => QJ O (cAt [1,1,1] Qm) (QH O) (Qf QC (cAt [1,1,1] Qm) t)) (QH O)))))) t H d)) ((Qe 0 ((Qg (fun _ t => QJ O (cAt [1,1,1] Qm) (QH O) (Qf QC (cAt [1,1,1] Qm) t)) (QH O))))))) (Qf QC (cAt [1,1,0,1,0,0,1,1] Qm) t)) ((Ql QC (cAt [1,1,0,1,0,0] Qm) (Qt (fun t H d again => QJ O (cAt [1,1,0,1,0,0] Qm) (Ql QC (cAt [1,1,0,1,0,0] Qm) again ((Qe 0 ((Qg (fun _ t => QJ O (cAt [1,1,1] Qm) (QH O) (Qf QC (cAt [1,1,1] Qm) t)) (QH O)))))) t H d)) ((Qe 0 ((Qg (fun _ t => QJ O (cAt [1,1,1] Qm) (QH O) (Qf QC (cAt [1,1,1] Qm) t)) (QH O))))))))))) (Qf QC (cAt [1,1,0,1,0,0,1,0,0,1,0,1,1] Qm) t)) ((Qe 1 ((Qg (fun _ t => QJ O (cAt [1,1,0,1,0,0,1,1] Qm) ((Ql QC (cAt [1,1,0,1,0,0] Qm) (Qt (fun t H d again => QJ O (cAt [1,1,0,1,0,0] Qm) (Ql QC (cAt [1,1,0,1,0,0] Qm) again ((Qe 0 ((Qg (fun _ t => QJ O (cAt [1,1,1] Qm) (QH O) (Qf QC (cAt [1,1,1] Qm) t)) (QH O)))))) t H d)) ((Qe 0 ((Qg (fun _ t => QJ O (cAt [1,1,1] Qm) (QH O) (Qf QC (cAt [1,1,1] Qm) t)) (QH O))))))) (Qf QC (cAt [1,1,0,1,0,0,1,1] Qm) t)) ((Ql QC (cAt [1,1,0,1,0,0] Qm) (Qt (fun t H d again => QJ O (cAt [1,1,0,1,0,0] Qm) (Ql QC (cAt [1,1,0,1,0,0] Qm) again ((Qe 0 ((Qg (fun _ t => QJ O (cAt [1,1,1] Qm) (QH O) (Qf QC (cAt [1,1,1] Qm) t)) (QH O)))))) t H d)) ((Qe 0 ((Qg (fun _ t => QJ O (cAt [1,1,1] Qm) (QH O) (Qf QC (cAt [1,1,1] Qm) t)) (QH O))))))))))))))) _ H []).trans (by kernel_rfl)
theorem Cy (O : Nat) (t0 t1 t5 : V) (H : Qa) : Ej O t0 t1 t5 H =
 bnd (QM t0) fun v2 =>
 bnd (Qb .lss 6 t5 v2) fun v3 =>
 cnd v3
 (bnd (Qx 6 t0 t5) fun v4 =>
 bnd (Qc true 6 H v4) fun v5 =>
 bnd (Qb .sub 6 t5 (.int .i64 1)) fun v6 =>
 bnd (Qx 6 t0 v6) fun v7 =>
 bnd (Qc true 6 H v7) fun v8 =>
 bcall (J6 E t1 [v5,v8] H) (fun v9 h10 =>
 cnd v9
 (bnd (JO 6 t0 (some t5) none none) fun v11 =>
 RO O t0 t1 t5 v11 (.int .i64 1) h10)
 (bnd (Qb .add 6 t5 (.int .i64 1)) fun v33 =>
 Ej O t0 t1 v33 h10))
 (fun v9 h10 => pn false O v9 h10))
 (rt false O t0 H) := (Za (cAt [1,1,0,1,0,0] Qm) ((Qe 0 ((Qg (fun _ t => QJ O (cAt [1,1,1] Qm) (QH O) (Qf QC (cAt [1,1,1] Qm) t)) (QH O))))) _ H []).trans (by kernel_rfl)
def QcU (O : Nat) (t0 t1 : V) (H : Qa) : Option (Out × Qa) := QJ O Qm (QH O) [(0,t0),(1,t1)] H []
theorem Qb7 (O : Nat) (t0 t1 : V) (H : Qa) : QcU O t0 t1 H =
 bnd (QM t0) fun v0 =>
 bnd (Qb .lss 6 v0 (.int .i64 2)) fun v1 =>
 cnd v1
 (rt false O t0 H)
 (Ej O t0 t1 (.int .i64 1) H) := by kernel_rfl
theorem XK (t0 t1 : V) (H : Qa) : E Fe [t0,t1] H = QcU H.length t0 t1 H := (QR Tryd.func65 (by kernel_rfl) (by kernel_rfl) (by kernel_rfl)).trans (by kernel_rfl)
def Qqf : Code := QO Tryd.f66
def QoK : Ks := []
def QpZ (O : Nat) : KC (Out × Qa) := QP Tryd.prog D false O 10 Tryd.f66.results.toList
def QpG (O : Nat) (c : Code) (k : KC (Out × Qa)) (t : Ts) (H : Qa) (d : Ds) : Option (Out × Qa) := xC Tryd.prog O false QoK E 10 c k t H d
def QfH (O : Nat) (t0 t1 : V) (H : Qa) : Option (Out × Qa) := QpG O Qqf (QpZ O) [(0,t0),(1,t1)] H []
theorem QqH (O : Nat) (t0 t1 : V) (H : Qa) : QfH O t0 t1 H =
 beff (QD H t0) fun v0 h1 =>
 beff (QD h1 t1) fun v2 h3 =>
 bnd (Qc true 6 h3 v0) fun v4 =>
 bcall (E Quc [v4] h3) (fun v5 h6 =>
 bnd (bnd (Qc true 6 h6 v2) fun v7 => sch (sam (Qc true 6 h3 v2) v7) (
 some v7)) fun v7 =>
 bcall (E Quc [v7] h6) (fun v8 h9 =>
 bnd (Qb .eql 6 v5 v8) fun v10 =>
 rt false O v10 h9)
 (fun v8 h9 => pn false O v8 h9))
 (fun v5 h6 => sch (tlb (Qc true 6 h3 v2) fun v11 => true) (pn false O v5 h6)) := by kernel_rfl
theorem Qjg (t0 t1 : V) (H : Qa) : E Bv [t0,t1] H = QfH H.length t0 t1 H := (QR Tryd.func66 (by kernel_rfl) (by kernel_rfl) (by kernel_rfl)).trans (by kernel_rfl)
def Qni : Code := QO Tryd.f67
def QkJ : Ks := []
def QhG (O : Nat) : KC (Out × Qa) := QP Tryd.prog D false O 8 Tryd.f67.results.toList
def Qoj (O : Nat) (c : Code) (k : KC (Out × Qa)) (t : Ts) (H : Qa) (d : Ds) : Option (Out × Qa) := xC Tryd.prog O false QkJ E 8 c k t H d
def QeO (O : Nat) (t0 t1 : V) (H : Qa) : Option (Out × Qa) := Qoj O Qni (QhG O) [(0,t0),(1,t1)] H []
theorem Qoz (O : Nat) (t0 t1 : V) (H : Qa) : QeO O t0 t1 H =
 beff (QD H t0) fun v0 h1 =>
 bnd (Qq v0 0) fun v2 =>
 bnd (Qc false 1 h1 v2) fun v3 =>
 bnd (Qc false 1 h1 t1) fun v4 =>
 bnd (Qb .eql 6 v3 v4) fun v5 =>
 rt false O v5 h1 := by kernel_rfl
theorem QnM (t0 t1 : V) (H : Qa) : E Jk [t0,t1] H = QeO H.length t0 t1 H := (QR Tryd.func67 (by kernel_rfl) (by kernel_rfl) (by kernel_rfl)).trans (by kernel_rfl)
def Y9 : Code := QO Tryd.f68
def Vm : Ks := [(3,[1,3,4]),(4,[1,3,4])]
def KV (O : Nat) : KC (Out × Qa) := QP Tryd.prog D false O 42 Tryd.f68.results.toList
def WL (O : Nat) (c : Code) (k : KC (Out × Qa)) (t : Ts) (H : Qa) (d : Ds) : Option (Out × Qa) := xC Tryd.prog O false Vm E 42 c k t H d
def QrP (O : Nat) (t1 t3 t4 : V) (H : Qa) : Option (Out × Qa) :=
Qt (fun t H d again => WL O (cAt [1,1,0,1,0,0] Y9) (Ql Vm (cAt [1,1,0,1,0,0] Y9) again ((Qe 0 ((Qg (fun _ t => WL O (cAt [1,1,1] Y9) (KV O) (Qf Vm (cAt [1,1,1] Y9) t)) (KV O)))))) t H d) [(1,t1),(3,t3),(4,t4)] H []
def NL (O : Nat) (t1 t3 t4 : V) (H : Qa) : Option (Out × Qa) :=
WL O (cAt [1,1,0,1,0,0,1,1] Y9) ((Ql Vm (cAt [1,1,0,1,0,0] Y9) (Qt (fun t H d again => WL O (cAt [1,1,0,1,0,0] Y9) (Ql Vm (cAt [1,1,0,1,0,0] Y9) again ((Qe 0 ((Qg (fun _ t => WL O (cAt [1,1,1] Y9) (KV O) (Qf Vm (cAt [1,1,1] Y9) t)) (KV O)))))) t H d)) ((Qe 0 ((Qg (fun _ t => WL O (cAt [1,1,1] Y9) (KV O) (Qf Vm (cAt [1,1,1] Y9) t)) (KV O))))))) [(1,t1),(3,t3),(4,t4)] H []
theorem QpX (O : Nat) (t1 t3 t4 : V) (H : Qa) : NL O t1 t3 t4 H =
 bnd (Qb .add 6 t4 (.int .i64 1)) fun v7 =>
 QrP O t1 t3 v7 H := by kernel_rfl
theorem Qqv (O : Nat) (t1 t3 t4 : V) (H : Qa) : QrP O t1 t3 t4 H =
 bnd (Qb .lss 6 t4 (.int .i64 256)) fun v2 =>
 cnd v2
 (bnd (Qc true 4 H t1) fun v3 =>
 bcall (E Vy [v3,t4] H) (fun v4 h5 =>
 bnd (oUn .not v4) fun v6 =>
 cnd v6
 (NL O t1 t3 t4 h5)
 (bnd (QM t3) fun v8 =>
 bnd (Qb .gtr 6 v8 (.int .i64 0)) fun v9 =>
 bnd (gua v9 true (QL t3) (some (.tup []))) fun v10 =>
 bnd (gua v9 true (QL t3) (some (.tup []))) fun v11 =>
 bnd (gua v9 true (QM v11) (some (.tup []))) fun v12 =>
 bnd (gua v9 true (Qb .sub 6 v12 (.int .i64 1)) (some (.tup []))) fun v13 =>
 bnd (gua v9 true (Qx 2 v10 v13) (some (.tup []))) fun v14 =>
 bnd (gua v9 true (Qq v14 1) (some (.tup []))) fun v15 =>
 bnd (gua v9 true (Qc false 1 h5 v15) (some (.tup []))) fun v16 =>
 bnd (gua v9 true (QL t4) (some (.tup []))) fun v17 =>
 bnd (gua v9 true (Qb .sub 6 v17 (.int .i64 1)) (some (.tup []))) fun v18 =>
 bnd (gua v9 true (Qb .eql 6 v16 v18) (some (.tup []))) fun v19 =>
 bnd (QY v9 v19 (.bool false)) fun v20 =>
 cnd v20
 (bnd (QM t3) fun v21 =>
 bnd (Qb .sub 6 v21 (.int .i64 1)) fun v22 =>
 bnd (Qx 2 t3 v22) fun v23 =>
 bnd (Qq v23 1) fun v24 =>
 beff (Qs O 1 h5 v24 t4) fun v25 h26 =>
 NL O t1 t3 t4 h26)
 (bnd (Zj [(.int .i64 0),(.int .i64 0)] [(0,1),(1,1)] [(0,t4),(1,t4)]) fun v27 =>
 bnd (Zq 2 1 (.agg [(.int .i64 0),(.int .i64 0)]) [(0,v27)]) fun v28 =>
 beff (Z1 O 2 16 true t3 v28 h5) fun v29 h30 =>
 NL O t1 v29 t4 h30)))
 (fun v4 h5 => pn false O v4 h5))
 (rt false O t3 H) := (Za (cAt [1,1,0,1,0,0] Y9) ((Qe 0 ((Qg (fun _ t => WL O (cAt [1,1,1] Y9) (KV O) (Qf Vm (cAt [1,1,1] Y9) t)) (KV O))))) _ H []).trans (by kernel_rfl)
def Qhv (O : Nat) (t0 : V) (H : Qa) : Option (Out × Qa) := WL O Y9 (KV O) [(0,t0)] H []
theorem Qkp (O : Nat) (t0 : V) (H : Qa) : Qhv O t0 H =
 beff (QD H t0) fun v0 h1 =>
 QrP O v0 .nils (.int .i64 0) h1 := by kernel_rfl
theorem Qll (t0 : V) (H : Qa) : E DO [t0] H = Qhv H.length t0 H := (QR Tryd.func68 (by kernel_rfl) (by kernel_rfl) (by kernel_rfl)).trans (by kernel_rfl)
def Qjl : Code := QO Tryd.f69
def Qi7 : Ks := []
def Qnu (O : Nat) : KC (Out × Qa) := QP Tryd.prog D false O 18 Tryd.f69.results.toList
def QlU (O : Nat) (c : Code) (k : KC (Out × Qa)) (t : Ts) (H : Qa) (d : Ds) : Option (Out × Qa) := xC Tryd.prog O false Qi7 E 18 c k t H d
def QbZ (O : Nat) (t0 : V) (H : Qa) : Option (Out × Qa) := QlU O Qjl (Qnu O) [(0,t0)] H []
theorem Qin (O : Nat) (t0 : V) (H : Qa) : QbZ O t0 H =
 bnd (Qb .rem 6 t0 (.int .i64 10)) fun v0 =>
 bnd (Qb .add 6 (.int .i64 48) v0) fun v1 =>
 bnd (Yc .u8 v1) fun v2 =>
 bnd (Zq 1 1 (.int .u8 0) [(0,v2)]) fun v3 =>
 bnd (JV H v3) fun v4 =>
 bnd (Qb .lss 6 t0 (.int .i64 10)) fun v5 =>
 cnd v5
 (rt false O v4 H)
 (bnd (Qb .quo 6 t0 (.int .i64 10)) fun v6 =>
 bcall (E BF [v6] H) (fun v7 h8 =>
 bnd (Qb .add 6 v7 v4) fun v9 =>
 rt false O v9 h8)
 (fun v7 h8 => pn false O v7 h8)) := by kernel_rfl
theorem Qmy (t0 : V) (H : Qa) : E BF [t0] H = QbZ H.length t0 H := (QR Tryd.func69 (by kernel_rfl) (by kernel_rfl) (by kernel_rfl)).trans (by kernel_rfl)
def Zz : Code := QO Tryd.f71
def Yx : Ks := [(2,[0,1,2,6,7,8]),(7,[0,1,2,6]),(9,[0,1,2,6,7,8]),(16,[0,1,2,6])]
def YG (O : Nat) : KC (Out × Qa) := QP Tryd.prog D false O 63 Tryd.f71.results.toList
def Js (O : Nat) (c : Code) (k : KC (Out × Qa)) (t : Ts) (H : Qa) (d : Ds) : Option (Out × Qa) := xC Tryd.prog O true Yx E 63 c k t H d
def Ea (O : Nat) (t0 t1 t2 t6 t7 t8 : V) (H : Qa) : Option (Out × Qa) :=
Qt (fun t H d again => Js O (cAt [1,1,0,0,0] Zz) (Ql Yx (cAt [1,1,0,0,0] Zz) again ((Qe 0 ((Qg (fun _ t => Js O (cAt [1,1,1] Zz) (YG O) (Qf Yx (cAt [1,1,1] Zz) t)) (YG O)))))) t H d) [(0,t0),(1,t1),(2,t2),(6,t6),(7,t7),(8,t8)] H []
def Ui (O : Nat) (t0 t1 t2 t6 : V) (H : Qa) : Option (Out × Qa) :=
Qt (fun t H d again => Js O (cAt [1,1,1,1,0,0] Zz) (Ql Yx (cAt [1,1,1,1,0,0] Zz) again ((Qe 2 (YG O)))) t H d) [(0,t0),(1,t1),(2,t2),(6,t6)] H []
def Fw (O : Nat) (t0 t1 t2 t6 t7 t8 : V) (H : Qa) : Option (Out × Qa) :=
Qt (fun t H d again => Js O (cAt [1,1,1,1,0,0,1,0,1,0,0,0] Zz) (Ql Yx (cAt [1,1,1,1,0,0,1,0,1,0,0,0] Zz) again ((Qe 4 ((Qg (fun _ t => Js O (cAt [1,1,1,1,0,0,1,0,1,1] Zz) ((Qe 3 ((Ql Yx (cAt [1,1,1,1,0,0] Zz) (Qt (fun t H d again => Js O (cAt [1,1,1,1,0,0] Zz) (Ql Yx (cAt [1,1,1,1,0,0] Zz) again ((Qe 2 (YG O)))) t H d)) ((Qe 2 (YG O))))))) (Qf Yx (cAt [1,1,1,1,0,0,1,0,1,1] Zz) t)) ((Qe 3 ((Ql Yx (cAt [1,1,1,1,0,0] Zz) (Qt (fun t H d again => Js O (cAt [1,1,1,1,0,0] Zz) (Ql Yx (cAt [1,1,1,1,0,0] Zz) again ((Qe 2 (YG O)))) t H d)) ((Qe 2 (YG O)))))))))))) t H d) [(0,t0),(1,t1),(2,t2),(6,t6),(7,t7),(8,t8)] H []
def Po (O : Nat) (t0 t1 t2 t6 : V) (H : Qa) : Option (Out × Qa) :=
Js O (cAt [1,1,1,1,0,0,1,0,1,1,1] Zz) ((Qe 3 ((Ql Yx (cAt [1,1,1,1,0,0] Zz) (Qt (fun t H d again => Js O (cAt [1,1,1,1,0,0] Zz) (Ql Yx (cAt [1,1,1,1,0,0] Zz) again ((Qe 2 (YG O)))) t H d)) ((Qe 2 (YG O))))))) [(0,t0),(1,t1),(2,t2),(6,t6)] H []
theorem XA (O : Nat) (t0 t1 t2 t6 : V) (H : Qa) : Po O t0 t1 t2 t6 H =
 bnd (Qb .mul 6 t6 (.int .i64 2)) fun v18 =>
 Ui O t0 t1 t2 v18 H := by kernel_rfl
theorem FE (O : Nat) (t0 t1 t2 t6 t7 t8 : V) (H : Qa) : Fw O t0 t1 t2 t6 t7 t8 H =
 bnd (Qb .leq 6 t8 t1) fun v8 =>
 cnd v8
 (bnd (Qb .add 6 t7 t6) fun v9 =>
 bcall (E Bf [t0,t7,v9,t8,t2] H) (fun v10 h11 =>
 bnd (Qb .mul 6 (.int .i64 2) t6) fun v12 =>
 bnd (Qb .add 6 t8 v12) fun v13 =>
 Fw O t0 t1 t2 t6 t8 v13 h11)
 (fun v10 h11 => pn false O v10 h11))
 (bnd (Qb .add 6 t7 t6) fun v14 =>
 bnd (Qb .lss 6 v14 t1) fun v15 =>
 cnd v15
 (bcall (E Bf [t0,t7,v14,t1,t2] H) (fun v16 h17 =>
 Po O t0 t1 t2 t6 h17)
 (fun v16 h17 => pn false O v16 h17))
 (Po O t0 t1 t2 t6 H)) := (Za (cAt [1,1,1,1,0,0,1,0,1,0,0,0] Zz) ((Qe 4 ((Qg (fun _ t => Js O (cAt [1,1,1,1,0,0,1,0,1,1] Zz) ((Qe 3 ((Ql Yx (cAt [1,1,1,1,0,0] Zz) (Qt (fun t H d again => Js O (cAt [1,1,1,1,0,0] Zz) (Ql Yx (cAt [1,1,1,1,0,0] Zz) again ((Qe 2 (YG O)))) t H d)) ((Qe 2 (YG O))))))) (Qf Yx (cAt [1,1,1,1,0,0,1,0,1,1] Zz) t)) ((Qe 3 ((Ql Yx (cAt [1,1,1,1,0,0] Zz) (Qt (fun t H d again => Js O (cAt [1,1,1,1,0,0] Zz) (Ql Yx (cAt [1,1,1,1,0,0] Zz) again ((Qe 2 (YG O)))) t H d)) ((Qe 2 (YG O))))))))))) _ H []).trans (by kernel_rfl)
theorem Pu (O : Nat) (t0 t1 t2 t6 : V) (H : Qa) : Ui O t0 t1 t2 t6 H =
 bnd (Qb .lss 6 t6 t1) fun v6 =>
 cnd v6
 (bnd (Qb .mul 6 (.int .i64 2) t6) fun v7 =>
 Fw O t0 t1 t2 t6 (.int .i64 0) v7 H)
 (rt false O (.tup []) H) := (Za (cAt [1,1,1,1,0,0] Zz) ((Qe 2 (YG O))) _ H []).trans (by kernel_rfl)
theorem L4 (O : Nat) (t0 t1 t2 t6 t7 t8 : V) (H : Qa) : Ea O t0 t1 t2 t6 t7 t8 H =
 bnd (Qb .leq 6 t8 t1) fun v0 =>
 cnd v0
 (bcall (E Nh [t0,t7,t8,t2] H) (fun v1 h2 =>
 bnd (Qb .add 6 t8 t6) fun v3 =>
 Ea O t0 t1 t2 t6 t8 v3 h2)
 (fun v1 h2 => pn false O v1 h2))
 (bcall (E Nh [t0,t7,t1,t2] H) (fun v4 h5 =>
 Ui O t0 t1 t2 t6 h5)
 (fun v4 h5 => pn false O v4 h5)) := (Za (cAt [1,1,0,0,0] Zz) ((Qe 0 ((Qg (fun _ t => Js O (cAt [1,1,1] Zz) (YG O) (Qf Yx (cAt [1,1,1] Zz) t)) (YG O))))) _ H []).trans (by kernel_rfl)
def QdX (O : Nat) (t0 t1 t2 : V) (H : Qa) : Option (Out × Qa) := Js O Zz (YG O) [(0,t0),(1,t1),(2,t2)] H []
theorem XM (O : Nat) (t0 t1 t2 : V) (H : Qa) : QdX O t0 t1 t2 H =
 Ea O t0 t1 t2 (.int .i64 20) (.int .i64 0) (.int .i64 20) H := by kernel_rfl
theorem QeQ (t0 t1 t2 : V) (H : Qa) : E Xw [t0,t1,t2] H = QdX H.length t0 t1 t2 H := (QR Tryd.func71 (by kernel_rfl) (by kernel_rfl) (by kernel_rfl)).trans (by kernel_rfl)
def Yb : Code := QO Tryd.f76
def JE : Ks := [(1,[0,1,2,3,8]),(4,[0,1,2,3,8,9])]
def Kf (O : Nat) : KC (Out × Qa) := QP Tryd.prog D false O 53 Tryd.f76.results.toList
def WB (O : Nat) (c : Code) (k : KC (Out × Qa)) (t : Ts) (H : Qa) (d : Ds) : Option (Out × Qa) := xC Tryd.prog O true JE E 53 c k t H d
def RZ (O : Nat) (t0 t1 t2 t3 t8 : V) (H : Qa) : Option (Out × Qa) :=
Qt (fun t H d again => WB O (cAt [1,0,0] Yb) (Ql JE (cAt [1,0,0] Yb) again ((Qe 0 (Kf O)))) t H d) [(0,t0),(1,t1),(2,t2),(3,t3),(8,t8)] H []
def Fz (O : Nat) (t0 t1 t2 t3 t8 t9 : V) (H : Qa) : Option (Out × Qa) :=
Qt (fun t H d again => WB O (cAt [1,0,0,1,0,0,1,0,0] Yb) (Ql JE (cAt [1,0,0,1,0,0,1,0,0] Yb) again ((Qe 2 ((Qe 1 ((Qg (fun _ t => WB O (cAt [1,0,0,1,1] Yb) ((Ql JE (cAt [1,0,0] Yb) (Qt (fun t H d again => WB O (cAt [1,0,0] Yb) (Ql JE (cAt [1,0,0] Yb) again ((Qe 0 (Kf O)))) t H d)) ((Qe 0 (Kf O))))) (Qf JE (cAt [1,0,0,1,1] Yb) t)) ((Ql JE (cAt [1,0,0] Yb) (Qt (fun t H d again => WB O (cAt [1,0,0] Yb) (Ql JE (cAt [1,0,0] Yb) again ((Qe 0 (Kf O)))) t H d)) ((Qe 0 (Kf O)))))))))))) t H d) [(0,t0),(1,t1),(2,t2),(3,t3),(8,t8),(9,t9)] H []
theorem E4 (O : Nat) (t0 t1 t2 t3 t8 t9 : V) (H : Qa) : Fz O t0 t1 t2 t3 t8 t9 H =
 bnd (Qb .gtr 6 t9 t1) fun v2 =>
 bnd (gua v2 true (QL t3) (some (.tup []))) fun v3 =>
 bnd (gua v2 true (QL t0) (some (.tup []))) fun v4 =>
 bnd (gua v2 true (QL t9) (some (.tup []))) fun v5 =>
 bnd (gua v2 true (Qx 6 v4 v5) (some (.tup []))) fun v6 =>
 bnd (gua v2 true (Qc true 6 H v6) (some (.tup []))) fun v7 =>
 bnd (gua v2 true (QL t0) (some (.tup []))) fun v8 =>
 bnd (gua v2 true (QL t9) (some (.tup []))) fun v9 =>
 bnd (gua v2 true (Qb .sub 6 v9 (.int .i64 1)) (some (.tup []))) fun v10 =>
 bnd (gua v2 true (Qx 6 v8 v10) (some (.tup []))) fun v11 =>
 bnd (gua v2 true (Qc true 6 H v11) (some (.tup []))) fun v12 =>
 bcall (gua v2 true (J6 E v3 [v7,v12] H) (some (.ret (.tup []),H))) (fun v13 h14 =>
 bnd (gua v2 true (Qb .lss 6 v13 (.int .i64 0)) (some (.tup []))) fun v15 =>
 bnd (QY v2 v15 (.bool false)) fun v16 =>
 cnd v16
 (bnd (Qb .sub 6 t9 (.int .i64 1)) fun v17 =>
 bnd (Qb .sub 6 t9 (.int .i64 1)) fun v18 =>
 bnd (Qx 6 t0 v18) fun v19 =>
 bnd (Qc true 6 h14 v19) fun v20 =>
 bnd (Qx 6 t0 t9) fun v21 =>
 bnd (Qc true 6 h14 v21) fun v22 =>
 bnd (Qx 6 t0 t9) fun v23 =>
 beff (Qs O 6 h14 v23 v20) fun v24 h25 =>
 bnd (Qx 6 t0 v17) fun v26 =>
 beff (Qs O 6 h25 v26 v22) fun v27 h28 =>
 bnd (Qb .sub 6 t9 (.int .i64 1)) fun v29 =>
 Fz O t0 t1 t2 t3 t8 v29 h28)
 (bnd (Qb .add 6 t8 (.int .i64 1)) fun v30 =>
 RZ O t0 t1 t2 t3 v30 h14))
 (fun v13 h14 => pn false O v13 h14) := (Za (cAt [1,0,0,1,0,0,1,0,0] Yb) ((Qe 2 ((Qe 1 ((Qg (fun _ t => WB O (cAt [1,0,0,1,1] Yb) ((Ql JE (cAt [1,0,0] Yb) (Qt (fun t H d again => WB O (cAt [1,0,0] Yb) (Ql JE (cAt [1,0,0] Yb) again ((Qe 0 (Kf O)))) t H d)) ((Qe 0 (Kf O))))) (Qf JE (cAt [1,0,0,1,1] Yb) t)) ((Ql JE (cAt [1,0,0] Yb) (Qt (fun t H d again => WB O (cAt [1,0,0] Yb) (Ql JE (cAt [1,0,0] Yb) again ((Qe 0 (Kf O)))) t H d)) ((Qe 0 (Kf O))))))))))) _ H []).trans (by kernel_rfl)
theorem Qrf (O : Nat) (t0 t1 t2 t3 t8 : V) (H : Qa) : RZ O t0 t1 t2 t3 t8 H =
 bnd (Qb .lss 6 t8 t2) fun v1 =>
 cnd v1
 (Fz O t0 t1 t2 t3 t8 t8 H)
 (rt false O (.tup []) H) := (Za (cAt [1,0,0] Yb) ((Qe 0 (Kf O))) _ H []).trans (by kernel_rfl)
def QcC (O : Nat) (t0 t1 t2 t3 : V) (H : Qa) : Option (Out × Qa) := WB O Yb (Kf O) [(0,t0),(1,t1),(2,t2),(3,t3)] H []
theorem AT (O : Nat) (t0 t1 t2 t3 : V) (H : Qa) : QcC O t0 t1 t2 t3 H =
 bnd (Qb .add 6 t1 (.int .i64 1)) fun v0 =>
 RZ O t0 t1 t2 t3 v0 H := by kernel_rfl
theorem AP (t0 t1 t2 t3 : V) (H : Qa) : E Nh [t0,t1,t2,t3] H = QcC H.length t0 t1 t2 t3 H := (QR Tryd.func76 (by kernel_rfl) (by kernel_rfl) (by kernel_rfl)).trans (by kernel_rfl)
end
end Go.Proofs.YtdnmpaielmfiiaaDoor
end
