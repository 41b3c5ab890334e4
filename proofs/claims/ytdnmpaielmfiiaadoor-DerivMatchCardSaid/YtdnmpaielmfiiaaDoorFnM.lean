/- FnM: a part of the proof that each law of this seat answers true at every input. No condition. -/
import Derived.Test.YtdnmpaielmfiiaaDoorHint
import Derived.KernelRfl
set_option linter.unusedVariables false
set_option linter.unusedSimpArgs false
set_option maxRecDepth 20000
section
namespace Go.Proofs.YtdnmpaielmfiiaaDoor
open Go Go.Ev
noncomputable section
def Qts : Code := QO Tryd.f5
def Qtn : Ks := []
def QtA (base : Nat) : KC (Out × Qa) := QP Tryd.prog D false base 21 Tryd.f5.results.toList
def Qtd (base : Nat) (c : Code) (k : KC (Out × Qa)) (t : Ts) (H : Qa) (d : Ds) : Option (Out × Qa) := xC Tryd.prog base false Qtn E 21 c k t H d
def QsS (base : Nat) (t0 t1 : V) (H : Qa) : Option (Out × Qa) := Qtd base Qts (QtA base) [(0,t0),(1,t1)] H []
theorem QtS (base : Nat) (t0 t1 : V) (H : Qa) : QsS base t0 t1 H =
 bcall (E MX [t0,(.int .i64 0)] H) (fun v0 h1 =>
 beff (QD h1 (.agg [(.int .i64 0),(.int .u64 0),(.int .u64 0),(.int .u64 0),(.int .u64 0),.nils])) fun v2 h3 =>
 beff (Qs base 6 h3 v2 v0) fun v4 h5 =>
 bcall (E VU [t1,(.int .i64 6)] h5) (fun v6 h7 =>
 bcall (E Nk [] h7) (fun v8 h9 =>
 bnd (gua v8 true (Qc true 6 h9 v2) (some (.tup []))) fun v10 =>
 bnd (gua v8 true (QL v6) (some (.tup []))) fun v11 =>
 bcall (gua v8 true (E UO [v10,v11] h9) (some (.ret (.tup []),h9))) (fun v12 h13 =>
 bnd (gua v8 true (bnd (Qc true 6 h13 v2) fun v14 => sch (sam (Qc true 6 h9 v2) v14) (
 some v14)) (some (.tup []))) fun v14 =>
 bnd (gua v8 true (QL v6) (some (.tup []))) fun v15 =>
 bcall (gua v8 true (E QrM [v14,v15] h13) (some (.ret (.tup []),h13))) (fun v16 h17 =>
 bnd (gua v8 true (Qb .eql 0 v12 v16) (some (.tup []))) fun v18 =>
 bnd (QY v8 v18 (.bool false)) fun v19 =>
 rt false base v19 h17)
 (fun v16 h17 => pn false base v16 h17))
 (fun v12 h13 => sch (tlb (gua v8 true (Qc true 6 h9 v2) (some (.tup []))) fun v20 => tlb (gua v8 true (QL v6) (some (.tup []))) fun v21 => true) (pn false base v12 h13)))
 (fun v8 h9 => pn false base v8 h9))
 (fun v6 h7 => pn false base v6 h7))
 (fun v0 h1 => pn false base v0 h1) := by kernel_rfl
theorem QtK (t0 t1 : V) (H : Qa) : E QsQ [t0,t1] H = QsS H.length t0 t1 H := (QR Tryd.func5 (by kernel_rfl) (by kernel_rfl) (by kernel_rfl)).trans (by kernel_rfl)
end
end Go.Proofs.YtdnmpaielmfiiaaDoor
end
