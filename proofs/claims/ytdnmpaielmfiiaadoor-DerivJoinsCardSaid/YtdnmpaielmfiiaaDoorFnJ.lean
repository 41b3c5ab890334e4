/- FnJ: a part of the proof that each law of this seat answers true at every input. No condition. -/
import Derived.Test.YtdnmpaielmfiiaaDoorHint
import Derived.KernelRfl
set_option linter.unusedVariables false
set_option linter.unusedSimpArgs false
set_option maxRecDepth 20000
section
namespace Go.Proofs.YtdnmpaielmfiiaaDoor
open Go Go.Ev
noncomputable section
def Qrs : Code := QO Tryd.f9
def Qr7 : Ks := [(8,[7,8,9,10,11,12])]
def QrH (O : Nat) : KC (Out × Qa) := QP Tryd.prog D false O 79 Tryd.f9.results.toList
def Qr3 (O : Nat) (c : Code) (k : KC (Out × Qa)) (t : Ts) (H : Qa) (d : Ds) : Option (Out × Qa) := xC Tryd.prog O false Qr7 E 79 c k t H d
def Qr9 (O : Nat) (t7 t8 t9 t10 t11 t12 : V) (H : Qa) : Option (Out × Qa) :=
Qt (fun t H d again => Qr3 O (cAt [1,1,1,1,1,1,0,1,0,0] Qrs) (Ql Qr7 (cAt [1,1,1,1,1,1,0,1,0,0] Qrs) again ((Qe 0 ((Qg (fun _ t => Qr3 O (cAt [1,1,1,1,1,1,1] Qrs) (QrH O) (Qf Qr7 (cAt [1,1,1,1,1,1,1] Qrs) t)) (QrH O)))))) t H d) [(7,t7),(8,t8),(9,t9),(10,t10),(11,t11),(12,t12)] H []
theorem Qs1 (O : Nat) (t7 t8 t9 t10 t11 t12 : V) (H : Qa) : Qr9 O t7 t8 t9 t10 t11 t12 H =
 bnd (Us t10) fun v17 =>
 bnd (Qb .leq 6 t12 v17) fun v18 =>
 cnd v18
 (bnd (Qc true 6 H t8) fun v19 =>
 bnd (F2 t10 none (some t12) none) fun v20 =>
 bcall (E UO [v19,v20] H) (fun v21 h22 =>
 bnd (bnd (Qc true 6 h22 t9) fun v23 => sch (sam (Qc true 6 H t9) v23) (
 some v23)) fun v23 =>
 bnd (F2 t10 (some t12) none none) fun v24 =>
 bcall (E UO [v23,v24] h22) (fun v25 h26 =>
 bnd (gua t11 false (QL v21) (some (.tup []))) fun v27 =>
 bnd (gua t11 false (QL v27) (some (.tup []))) fun v28 =>
 bnd (gua v28 true (QL v25) (some (.tup []))) fun v29 =>
 bnd (gua t11 false (QY v28 v29 (.bool false)) (some (.tup []))) fun v30 =>
 bnd (QY t11 (.bool true) v30) fun v31 =>
 bnd (Qb .add 6 t12 (.int .i64 1)) fun v32 =>
 Qr9 O t7 t8 t9 t10 v31 v32 h26)
 (fun v25 h26 => pn false O v25 h26))
 (fun v21 h22 => sch (tlb (Qc true 6 H t9) fun v33 => tlb (QL t10) fun v34 => tlb (QL t12) fun v35 => tlb (F2 v34 (some v35) none none) fun v36 => true) (pn false O v21 h22)))
 (bnd (Qc true 6 H t8) fun v37 =>
 bcall (E UO [v37,t10] H) (fun v38 h39 =>
 bnd (Qc true 6 h39 t9) fun v40 =>
 bcall (E UO [v40,t10] h39) (fun v41 h42 =>
 bnd (gua t7 true (Qc true 6 h42 t8) (some (.tup []))) fun v43 =>
 bnd (gua t7 true (Qc true 6 h42 t9) (some (.tup []))) fun v44 =>
 bnd (gua t7 true (Zq 6 2 (.agg [(.int .i64 0),(.int .u64 0),(.int .u64 0),(.int .u64 0),(.int .u64 0),(.vs [])]) [(0,v43),(1,v44)]) (some (.tup []))) fun v45 =>
 bcall (gua t7 true (E Vi [v45] h42) (some (.ret (.tup []),h42))) (fun v46 h47 =>
 bnd (gua t7 true (QL t10) (some (.tup []))) fun v48 =>
 bcall (gua t7 true (E UO [v46,v48] h47) (some (.ret (.tup []),h47))) (fun v49 h50 =>
 bnd (gua t7 true (QL t11) (some (.tup []))) fun v51 =>
 bnd (gua t7 true (Qb .eql 0 v49 v51) (some (.tup []))) fun v52 =>
 bnd (QY t7 v52 (.bool false)) fun v53 =>
 bnd (gua v53 true (Qc true 6 h50 t8) (some (.tup []))) fun v54 =>
 bnd (gua v53 true (Qc true 6 h50 t9) (some (.tup []))) fun v55 =>
 bnd (gua v53 true (Zq 6 2 (.agg [(.int .i64 0),(.int .u64 0),(.int .u64 0),(.int .u64 0),(.int .u64 0),(.vs [])]) [(0,v54),(1,v55)]) (some (.tup []))) fun v56 =>
 bcall (gua v53 true (E V9 [v56] h50) (some (.ret (.tup []),h50))) (fun v57 h58 =>
 bnd (gua v53 true (QL t10) (some (.tup []))) fun v59 =>
 bcall (gua v53 true (E UO [v57,v59] h58) (some (.ret (.tup []),h58))) (fun v60 h61 =>
 bnd (gua v53 true (QL v38) (some (.tup []))) fun v62 =>
 bnd (gua v53 true (QL v62) (some (.tup []))) fun v63 =>
 bnd (gua v63 false (QL v41) (some (.tup []))) fun v64 =>
 bnd (gua v53 true (QY v63 (.bool true) v64) (some (.tup []))) fun v65 =>
 bnd (gua v53 true (Qb .eql 0 v60 v65) (some (.tup []))) fun v66 =>
 bnd (QY v53 v66 (.bool false)) fun v67 =>
 rt false O v67 h61)
 (fun v60 h61 => pn false O v60 h61))
 (fun v57 h58 => pn false O v57 h58))
 (fun v49 h50 => pn false O v49 h50))
 (fun v46 h47 => pn false O v46 h47))
 (fun v41 h42 => pn false O v41 h42))
 (fun v38 h39 => pn false O v38 h39)) := (Za (cAt [1,1,1,1,1,1,0,1,0,0] Qrs) ((Qe 0 ((Qg (fun _ t => Qr3 O (cAt [1,1,1,1,1,1,1] Qrs) (QrH O) (Qf Qr7 (cAt [1,1,1,1,1,1,1] Qrs) t)) (QrH O))))) _ H []).trans (by kernel_rfl)
def QsK (O : Nat) (t0 t1 t2 : V) (H : Qa) : Option (Out × Qa) := Qr3 O Qrs (QrH O) [(0,t0),(1,t1),(2,t2)] H []
theorem QtL (O : Nat) (t0 t1 t2 : V) (H : Qa) : QsK O t0 t1 t2 H =
 bcall (E Nk [] H) (fun v0 h1 =>
 bnd (oUn .not v0) fun v2 =>
 cnd v2
 (rt false O (.bool false) h1)
 (bcall (E MX [t0,(.int .i64 0)] h1) (fun v3 h4 =>
 bcall (E MX [t1,(.int .i64 0)] h4) (fun v5 h6 =>
 beff (QD h6 (.agg [(.int .i64 0),(.int .u64 0),(.int .u64 0),(.int .u64 0),(.int .u64 0),.nils])) fun v7 h8 =>
 beff (QD h8 (.agg [(.int .i64 0),(.int .u64 0),(.int .u64 0),(.int .u64 0),(.int .u64 0),.nils])) fun v9 h10 =>
 beff (Qs O 6 h10 v7 v3) fun v11 h12 =>
 beff (Qs O 6 h12 v9 v5) fun v13 h14 =>
 bcall (E VU [t2,(.int .i64 5)] h14) (fun v15 h16 =>
 Qr9 O v0 v7 v9 v15 (.bool false) (.int .i64 0) h16)
 (fun v15 h16 => pn false O v15 h16))
 (fun v5 h6 => pn false O v5 h6))
 (fun v3 h4 => pn false O v3 h4)))
 (fun v0 h1 => pn false O v0 h1) := by kernel_rfl
theorem QtQ (t0 t1 t2 : V) (H : Qa) : E QsH [t0,t1,t2] H = QsK H.length t0 t1 t2 H := (QR Tryd.func9 (by kernel_rfl) (by kernel_rfl) (by kernel_rfl)).trans (by kernel_rfl)
end
end Go.Proofs.YtdnmpaielmfiiaaDoor
end
