/- FnT: a part of the proof that each law of this seat answers true at every input. No condition. -/
import Derived.Test.YtdnmpaielmfiiaaDoorHint
import Derived.KernelRfl
set_option linter.unusedVariables false
set_option linter.unusedSimpArgs false
set_option maxRecDepth 20000
section
namespace Go.Proofs.YtdnmpaielmfiiaaDoor
open Go Go.Ev
noncomputable section
def Qsj : Code := QO Tryd.f6
def Qte : Ks := [(3,[0,1]),(5,[0,1])]
def Qsr (O : Nat) : KC (Out × Qa) := QP Tryd.prog D false O 33 Tryd.f6.results.toList
def Qsk (O : Nat) (c : Code) (k : KC (Out × Qa)) (t : Ts) (H : Qa) (d : Ds) : Option (Out × Qa) := xC Tryd.prog O false Qte E 33 c k t H d
def Qr6 (O : Nat) (t0 t1 : V) (H : Qa) : Option (Out × Qa) :=
Qsk O (cAt [1,1,1] Qsj) (Qsr O) [(0,t0),(1,t1)] H []
theorem Qt5 (O : Nat) (t0 t1 : V) (H : Qa) : Qr6 O t0 t1 H =
 bcall (E MX [t0,(.int .i64 0)] H) (fun v6 h7 =>
 bcall (E BH [(.int .i64 0),(.int .i64 255)] h7) (fun v8 h9 =>
 bnd (Zj [(.int .i64 0),(.int .u64 0),(.int .u64 0),(.int .u64 0),(.int .u64 0),.nils] [(0,1),(1,4),(5,1)] [(0,(.int .i64 2)),(1,v8)]) fun v10 =>
 bcall (E WI [v10] h9) (fun v11 h12 =>
 bnd (Zq 6 2 (.agg [(.int .i64 0),(.int .u64 0),(.int .u64 0),(.int .u64 0),(.int .u64 0),(.vs [])]) [(0,v6),(1,v11)]) fun v13 =>
 bcall (E Vi [v13] h12) (fun v14 h15 =>
 beff (QD h15 (.agg [(.int .i64 0),(.int .u64 0),(.int .u64 0),(.int .u64 0),(.int .u64 0),.nils])) fun v16 h17 =>
 beff (Qs O 6 h17 v16 v14) fun v18 h19 =>
 bcall (E Nk [] h19) (fun v20 h21 =>
 bnd (gua v20 true (Qc true 6 h21 v16) (some (.tup []))) fun v22 =>
 bnd (gua v20 true (QL t1) (some (.tup []))) fun v23 =>
 bcall (gua v20 true (E UO [v22,v23] h21) (some (.ret (.tup []),h21))) (fun v24 h25 =>
 bnd (gua v20 true (bnd (Qc true 6 h25 v16) fun v26 => sch (sam (Qc true 6 h21 v16) v26) (
 some v26)) (some (.tup []))) fun v26 =>
 bnd (gua v20 true (QL t1) (some (.tup []))) fun v27 =>
 bcall (gua v20 true (E QrM [v26,v27] h25) (some (.ret (.tup []),h25))) (fun v28 h29 =>
 bnd (gua v20 true (Qb .eql 0 v24 v28) (some (.tup []))) fun v30 =>
 bnd (QY v20 v30 (.bool false)) fun v31 =>
 rt false O v31 h29)
 (fun v28 h29 => pn false O v28 h29))
 (fun v24 h25 => sch (tlb (gua v20 true (Qc true 6 h21 v16) (some (.tup []))) fun v32 => tlb (gua v20 true (QL t1) (some (.tup []))) fun v33 => true) (pn false O v24 h25)))
 (fun v20 h21 => pn false O v20 h21))
 (fun v14 h15 => pn false O v14 h15))
 (fun v11 h12 => pn false O v11 h12))
 (fun v8 h9 => pn false O v8 h9))
 (fun v6 h7 => pn false O v6 h7) := by kernel_rfl
def QrT (O : Nat) (t0 t1 : V) (H : Qa) : Option (Out × Qa) :=
Qsk O (cAt [1,1] Qsj) (Qsr O) [(0,t0),(1,t1)] H []
theorem QtO (O : Nat) (t0 t1 : V) (H : Qa) : QrT O t0 t1 H =
 bnd (QM t0) fun v3 =>
 bnd (Qb .gtr 6 v3 (.int .i64 100)) fun v4 =>
 cnd v4
 (bnd (JO 1 t0 none (some (.int .i64 100)) none) fun v5 =>
 Qr6 O v5 t1 H)
 (Qr6 O t0 t1 H) := by kernel_rfl
def Qsz (O : Nat) (t0 t1 : V) (H : Qa) : Option (Out × Qa) := Qsk O Qsj (Qsr O) [(0,t0),(1,t1)] H []
theorem QtY (O : Nat) (t0 t1 : V) (H : Qa) : Qsz O t0 t1 H =
 bnd (Us t1) fun v0 =>
 bnd (Qb .gtr 6 v0 (.int .i64 6)) fun v1 =>
 cnd v1
 (bnd (F2 t1 none (some (.int .i64 6)) none) fun v2 =>
 QrT O t0 v2 H)
 (QrT O t0 t1 H) := by kernel_rfl
theorem QtN (t0 t1 : V) (H : Qa) : E Qs5 [t0,t1] H = Qsz H.length t0 t1 H := (QR Tryd.func6 (by kernel_rfl) (by kernel_rfl) (by kernel_rfl)).trans (by kernel_rfl)
end
end Go.Proofs.YtdnmpaielmfiiaaDoor
end
